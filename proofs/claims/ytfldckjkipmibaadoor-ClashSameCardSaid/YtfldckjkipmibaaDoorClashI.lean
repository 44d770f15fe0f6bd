/- Walks: of two leaves at one place, both. -/
import Derived.Test.YtfldckjkipmibaaDoorClashH
set_option linter.unusedVariables false
set_option linter.unusedSimpArgs false
namespace Go.Proofs.YtfldckjkipmibaaDoor
open Go Go.RowKit Go.Proofs.E
attribute [local irreducible] Go.wpList Go.Code.wp Go.Proofs.E.exec Go.Proofs.E.wpLexG
theorem upsZ_mem {n i : Int} {leaf : List UInt8} {path : List Hs} (hl : leaf.length ≤ 1000000000) : ∀ x ∈ upsZ n i leaf path, x.length ≤ 1099511627776 := by
  intro x hx
  unfold upsZ at hx
  split at hx
  · have := upsT_mem (path := path) (leaf := leaf) (m := 1000000065) (by omega) (by omega) x hx
    omega
  · simp at hx
theorem upsZ_len {n i : Int} {leaf : List UInt8} {path : List Hs} : (upsZ n i leaf path).length ≤ path.length + 1 := by
  unfold upsZ
  split
  · rename_i h
    rw [upsT_len, sidesB_len, (climbZ_ok.1 h).2]
    exact Nat.le_refl _
  · simp
def leavesZ (n i : Int) (a : List UInt8) (p : List Hs) (b : List UInt8) (q : List Hs) : Option (List UInt8 × List UInt8) :=
  if (climbZ n i zeroH p).2 = true ∧ (climbZ n i zeroH q).2 = true then firstL (pairsL (upsZ n i a p) (upsZ n i b q)) else none
set_option maxHeartbeats 8000000 in
theorem cleaves_any (n i : Int) (va vp vb vq : Value) (a b : List UInt8) (p q : List Hs) (w0 : World) (hK : Laid w0) (hRa : tU8.Rd [] w0 va a) (hRp : (Ty.enc eH).Rd [] w0 vp p) (hRb : tU8.Rd [] w0 vb b) (hRq : (Ty.enc eH).Rd [] w0 vq q)
    (hla : a.length ≤ 1000000000) (hlb : b.length ≤ 1000000000) (hlp : p.length ≤ 1000000000) :
    Calls Tryd.prog 25 #[.int .i64 n, .int .i64 i, va, vp, vb, vq] w0 (Ret fun u w' => ∃ v1 v2, u = .tuple #[v1, v2, .bool (leavesZ n i a p b q).isSome] ∧
      Mem [] w0 w' [.row eU8 5 v1 (fstL (leavesZ n i a p b q)), .row eU8 5 v2 (sndL (leavesZ n i a p b q))]) := by
  have hM := Mem.start w0
  refine enter [.int .i64 n, .int .i64 i, va, vp, vb, vq, undef, undef, undef, undef, undef, undef, undef, undef, undef, undef, undef, undef, undef, undef, undef, undef, undef, undef, undef, undef, undef, undef, undef, undef, undef, undef, undef, undef, undef, undef, undef, undef, undef, undef, undef, undef, undef, undef, undef, undef, undef] Tryd.func25 rfl rfl ?_
  repeat (first | ((with_reducible apply is_ld); first | refine kld hM ?_ | refine kldw hM ?_ | refine kle hM ?_ | refine klew hM ?_) | ((with_reducible apply is_sto); first | (refine kst hM ?_; intro w hM) | (refine kstw hM ?_; intro w hM)) | ((with_reducible apply is_st); refine su ?_) | ((with_reducible apply is_gd); first | refine gt ?_ | refine gf ?_ | refine gu ?_) | ((with_reducible apply is_en); refine en ?_) | (with_reducible first | apply x_then | apply wp_seq | apply c_region | apply wp_block | apply wp_skip | apply wp_exit | apply wp_ret | apply wp_label | apply wp_scope_straight | apply x_ng | apply x_ng_ret | apply x_ng_exit | apply x_then_ret | apply x_then_exit | apply x_block | apply x_block_ret | apply x_block_exit | refine x_block_other (by decide) ?_))
  refine ca ((fun n i vl vp leaf path w h1 h2 h3 h4 => cups_any n i vl vp leaf path w h1 h2 h3 h4) n i va vp a p w0 hK hRa hRp hla) ?_
  rintro _ w1 ⟨v1, B1, rfl, hN1⟩
  have hM := hM.join hN1 (by simp [As.plain])
  repeat (first | ((with_reducible apply is_ld); first | refine kld hM ?_ | refine kldw hM ?_ | refine kle hM ?_ | refine klew hM ?_) | ((with_reducible apply is_sto); first | (refine kst hM ?_; intro w hM) | (refine kstw hM ?_; intro w hM)) | ((with_reducible apply is_st); refine su ?_) | ((with_reducible apply is_gd); first | refine gt ?_ | refine gf ?_ | refine gu ?_) | ((with_reducible apply is_en); refine en ?_) | (with_reducible first | apply x_then | apply wp_seq | apply c_region | apply wp_block | apply wp_skip | apply wp_exit | apply wp_ret | apply wp_label | apply wp_scope_straight | apply x_ng | apply x_ng_ret | apply x_ng_exit | apply x_then_ret | apply x_then_exit | apply x_block | apply x_block_ret | apply x_block_exit | refine x_block_other (by decide) ?_))
  refine ca ((fun n i vl vp leaf path w h1 h2 h3 h4 => cups_any n i vl vp leaf path w h1 h2 h3 h4) n i vb vq b q w1 (hK.ch hM.ch (by simp)) (hRb.ch hM.ch) (hRq.ch hM.ch) hlb) ?_
  rintro _ w2 ⟨v2, B2, rfl, hN2⟩
  have hM := hM.join hN2 (by simp [As.plain])
  simp only [List.cons_append, List.nil_append] at hM
  unfold leavesZ
  have hm1 := upsZ_mem (n := n) (i := i) (path := p) hla
  have hm2 := upsZ_mem (n := n) (i := i) (path := q) hlb
  have hml := upsZ_len (n := n) (i := i) (leaf := a) (path := p)
  generalize upsZ n i a p = xs at hM hm1 hml ⊢
  generalize upsZ n i b q = ys at hM hm2 ⊢
  generalize (climbZ n i zeroH p).2 = c1
  generalize (climbZ n i zeroH q).2 = c2
  repeat (first | ((with_reducible apply is_ld); first | refine kld hM ?_ | refine kldw hM ?_ | refine kle hM ?_ | refine klew hM ?_) | ((with_reducible apply is_sto); first | (refine kst hM ?_; intro w hM) | (refine kstw hM ?_; intro w hM)) | ((with_reducible apply is_st); refine su ?_) | ((with_reducible apply is_gd); first | refine gt ?_ | refine gf ?_ | refine gu ?_) | ((with_reducible apply is_en); refine en ?_) | (with_reducible first | apply x_then | apply wp_seq | apply c_region | apply wp_block | apply wp_skip | apply wp_exit | apply wp_ret | apply wp_label | apply wp_scope_straight | apply x_ng | apply x_ng_ret | apply x_ng_exit | apply x_then_ret | apply x_then_exit | apply x_block | apply x_block_ret | apply x_block_exit | refine x_block_other (by decide) ?_))
  have none_ : ∀ {fn : Func} {l : List Value}, fn.results = #[.tmp 12, .tmp 13, .tmp 14] → ev l (.tmp 12) = .slice none 0 0 → ev l (.tmp 13) = .slice none 0 0 → ev l (.tmp 14) = .bool false → bodyPost Tryd.prog fn (Ret fun u w' => ∃ v1 v2, u = .tuple #[v1, v2, .bool (none : Option (List UInt8 × List UInt8)).isSome] ∧
      Mem [] w0 w' [.row eU8 5 v1 (fstL none), .row eU8 5 v2 (sndL none)]) .ret (fr l) w2 := fun hr h1 h2 h3 => out3 hr ⟨_, _, by rw [h1, h2, h3]; rfl, (hM.nil.nilRow eU8 5).nilRow eU8 5⟩
  cases c1 with
  | false =>
    rw [if_neg (by simp)]
    repeat (first | ((with_reducible apply is_ld); first | refine kld hM ?_ | refine kldw hM ?_ | refine kle hM ?_ | refine klew hM ?_) | ((with_reducible apply is_sto); first | (refine kst hM ?_; intro w hM) | (refine kstw hM ?_; intro w hM)) | ((with_reducible apply is_st); refine su ?_) | ((with_reducible apply is_gd); first | refine gt ?_ | refine gf ?_ | refine gu ?_) | ((with_reducible apply is_en); refine en ?_) | (with_reducible first | apply x_then | apply wp_seq | apply c_region | apply wp_block | apply wp_skip | apply wp_exit | apply wp_ret | apply wp_label | apply wp_scope_straight | apply x_ng | apply x_ng_ret | apply x_ng_exit | apply x_then_ret | apply x_then_exit | apply x_block | apply x_block_ret | apply x_block_exit | refine x_block_other (by decide) ?_))
    refine c_condb rfl (fun _ => ?_) (fun h => by cases h)
    repeat (first | ((with_reducible apply is_ld); first | refine kld hM ?_ | refine kldw hM ?_ | refine kle hM ?_ | refine klew hM ?_) | ((with_reducible apply is_sto); first | (refine kst hM ?_; intro w hM) | (refine kstw hM ?_; intro w hM)) | ((with_reducible apply is_st); refine su ?_) | ((with_reducible apply is_gd); first | refine gt ?_ | refine gf ?_ | refine gu ?_) | ((with_reducible apply is_en); refine en ?_) | (with_reducible first | apply x_then | apply wp_seq | apply c_region | apply wp_block | apply wp_skip | apply wp_exit | apply wp_ret | apply wp_label | apply wp_scope_straight | apply x_ng | apply x_ng_ret | apply x_ng_exit | apply x_then_ret | apply x_then_exit | apply x_block | apply x_block_ret | apply x_block_exit | refine x_block_other (by decide) ?_))
    exact none_ rfl rfl rfl rfl
  | true =>
    cases c2 with
    | false =>
      rw [if_neg (by simp)]
      repeat (first | ((with_reducible apply is_ld); first | refine kld hM ?_ | refine kldw hM ?_ | refine kle hM ?_ | refine klew hM ?_) | ((with_reducible apply is_sto); first | (refine kst hM ?_; intro w hM) | (refine kstw hM ?_; intro w hM)) | ((with_reducible apply is_st); refine su ?_) | ((with_reducible apply is_gd); first | refine gt ?_ | refine gf ?_ | refine gu ?_) | ((with_reducible apply is_en); refine en ?_) | (with_reducible first | apply x_then | apply wp_seq | apply c_region | apply wp_block | apply wp_skip | apply wp_exit | apply wp_ret | apply wp_label | apply wp_scope_straight | apply x_ng | apply x_ng_ret | apply x_ng_exit | apply x_then_ret | apply x_then_exit | apply x_block | apply x_block_ret | apply x_block_exit | refine x_block_other (by decide) ?_))
      refine c_condb rfl (fun _ => ?_) (fun h => by cases h)
      repeat (first | ((with_reducible apply is_ld); first | refine kld hM ?_ | refine kldw hM ?_ | refine kle hM ?_ | refine klew hM ?_) | ((with_reducible apply is_sto); first | (refine kst hM ?_; intro w hM) | (refine kstw hM ?_; intro w hM)) | ((with_reducible apply is_st); refine su ?_) | ((with_reducible apply is_gd); first | refine gt ?_ | refine gf ?_ | refine gu ?_) | ((with_reducible apply is_en); refine en ?_) | (with_reducible first | apply x_then | apply wp_seq | apply c_region | apply wp_block | apply wp_skip | apply wp_exit | apply wp_ret | apply wp_label | apply wp_scope_straight | apply x_ng | apply x_ng_ret | apply x_ng_exit | apply x_then_ret | apply x_then_exit | apply x_block | apply x_block_ret | apply x_block_exit | refine x_block_other (by decide) ?_))
      exact none_ rfl rfl rfl rfl
    | true =>
      rw [if_pos ⟨rfl, rfl⟩]
      repeat (first | ((with_reducible apply is_ld); first | refine kld hM ?_ | refine kldw hM ?_ | refine kle hM ?_ | refine klew hM ?_) | ((with_reducible apply is_sto); first | (refine kst hM ?_; intro w hM) | (refine kstw hM ?_; intro w hM)) | ((with_reducible apply is_st); refine su ?_) | ((with_reducible apply is_gd); first | refine gt ?_ | refine gf ?_ | refine gu ?_) | ((with_reducible apply is_en); refine en ?_) | (with_reducible first | apply x_then | apply wp_seq | apply c_region | apply wp_block | apply wp_skip | apply wp_exit | apply wp_ret | apply wp_label | apply wp_scope_straight | apply x_ng | apply x_ng_ret | apply x_ng_exit | apply x_then_ret | apply x_then_exit | apply x_block | apply x_block_ret | apply x_block_exit | refine x_block_other (by decide) ?_))
      refine c_condb rfl (fun h => by cases h) (fun _ => ?_)
      repeat (first | ((with_reducible apply is_ld); first | refine kld hM ?_ | refine kldw hM ?_ | refine kle hM ?_ | refine klew hM ?_) | ((with_reducible apply is_sto); first | (refine kst hM ?_; intro w hM) | (refine kstw hM ?_; intro w hM)) | ((with_reducible apply is_st); refine su ?_) | ((with_reducible apply is_gd); first | refine gt ?_ | refine gf ?_ | refine gu ?_) | ((with_reducible apply is_en); refine en ?_) | (with_reducible first | apply x_then | apply wp_seq | apply c_region | apply wp_block | apply wp_skip | apply wp_exit | apply wp_ret | apply wp_label | apply wp_scope_straight | apply x_ng | apply x_ng_ret | apply x_ng_exit | apply x_then_ret | apply x_then_exit | apply x_block | apply x_block_ret | apply x_block_exit | refine x_block_other (by decide) ?_))
      refine ca ((fun va vb xs ys w h1 => first_any va vb xs ys w h1) v1 v2 xs ys w2 (hK.ch hM.ch (by simp)) (hM.frdRd (xs := xs) (by (repeat (first | exact Go.Proofs.E.Pick.here | apply Go.Proofs.E.Pick.there)))) (hM.frdRd (xs := ys) (by (repeat (first | exact Go.Proofs.E.Pick.here | apply Go.Proofs.E.Pick.there)))) hm1 hm2 (by omega)) ?_
      rintro _ w3 ⟨u1, u2, rfl, hN3⟩
      have hM := hM.nil.join hN3 (by simp [As.plain])
      repeat (first | ((with_reducible apply is_ld); first | refine kld hM ?_ | refine kldw hM ?_ | refine kle hM ?_ | refine klew hM ?_) | ((with_reducible apply is_sto); first | (refine kst hM ?_; intro w hM) | (refine kstw hM ?_; intro w hM)) | ((with_reducible apply is_st); refine su ?_) | ((with_reducible apply is_gd); first | refine gt ?_ | refine gf ?_ | refine gu ?_) | ((with_reducible apply is_en); refine en ?_) | (with_reducible first | apply x_then | apply wp_seq | apply c_region | apply wp_block | apply wp_skip | apply wp_exit | apply wp_ret | apply wp_label | apply wp_scope_straight | apply x_ng | apply x_ng_ret | apply x_ng_exit | apply x_then_ret | apply x_then_exit | apply x_block | apply x_block_ret | apply x_block_exit | refine x_block_other (by decide) ?_))
      exact out3 rfl ⟨_, _, rfl, hM⟩
set_option maxHeartbeats 8000000 in
theorem rleaves_any (n i : Int) (va vp vb vq : Value) (a b : List UInt8) (p q : List Hs) (w0 : World) (hK : True) (hRa : tU8.Rd [] w0 va a) (hRp : (Ty.enc eH).Rd [] w0 vp p) (hRb : tU8.Rd [] w0 vb b) (hRq : (Ty.enc eH).Rd [] w0 vq q)
    (hla : a.length ≤ 1000000000) (hlb : b.length ≤ 1000000000) (hlp : p.length ≤ 1000000000) :
    Calls Tryd.prog 26 #[.int .i64 n, .int .i64 i, va, vp, vb, vq] w0 (Ret fun u w' => ∃ v1 v2, u = .tuple #[v1, v2, .bool (leavesZ n i a p b q).isSome] ∧
      Mem [] w0 w' [.row eU8 5 v1 (fstL (leavesZ n i a p b q)), .row eU8 5 v2 (sndL (leavesZ n i a p b q))]) := by
  have hM := Mem.start w0
  refine enter [.int .i64 n, .int .i64 i, va, vp, vb, vq, undef, undef, undef, undef, undef, undef, undef, undef, undef, undef, undef, undef, undef, undef, undef, undef, undef, undef, undef, undef, undef, undef, undef, undef, undef, undef, undef, undef, undef, undef, undef, undef, undef, undef, undef, undef, undef, undef, undef, undef, undef] Tryd.func26 rfl rfl ?_
  repeat (first | ((with_reducible apply is_ld); first | refine kld hM ?_ | refine kldw hM ?_ | refine kle hM ?_ | refine klew hM ?_) | ((with_reducible apply is_sto); first | (refine kst hM ?_; intro w hM) | (refine kstw hM ?_; intro w hM)) | ((with_reducible apply is_st); refine su ?_) | ((with_reducible apply is_gd); first | refine gt ?_ | refine gf ?_ | refine gu ?_) | ((with_reducible apply is_en); refine en ?_) | (with_reducible first | apply x_then | apply wp_seq | apply c_region | apply wp_block | apply wp_skip | apply wp_exit | apply wp_ret | apply wp_label | apply wp_scope_straight | apply x_ng | apply x_ng_ret | apply x_ng_exit | apply x_then_ret | apply x_then_exit | apply x_block | apply x_block_ret | apply x_block_exit | refine x_block_other (by decide) ?_))
  refine ca ((fun n i vl vp leaf path w (_ : True) h2 h3 h4 => rUps_any n i vl vp leaf path w h2 h3 h4) n i va vp a p w0 hK hRa hRp hla) ?_
  rintro _ w1 ⟨v1, B1, rfl, hN1⟩
  have hM := hM.join hN1 (by simp [As.plain])
  repeat (first | ((with_reducible apply is_ld); first | refine kld hM ?_ | refine kldw hM ?_ | refine kle hM ?_ | refine klew hM ?_) | ((with_reducible apply is_sto); first | (refine kst hM ?_; intro w hM) | (refine kstw hM ?_; intro w hM)) | ((with_reducible apply is_st); refine su ?_) | ((with_reducible apply is_gd); first | refine gt ?_ | refine gf ?_ | refine gu ?_) | ((with_reducible apply is_en); refine en ?_) | (with_reducible first | apply x_then | apply wp_seq | apply c_region | apply wp_block | apply wp_skip | apply wp_exit | apply wp_ret | apply wp_label | apply wp_scope_straight | apply x_ng | apply x_ng_ret | apply x_ng_exit | apply x_then_ret | apply x_then_exit | apply x_block | apply x_block_ret | apply x_block_exit | refine x_block_other (by decide) ?_))
  refine ca ((fun n i vl vp leaf path w (_ : True) h2 h3 h4 => rUps_any n i vl vp leaf path w h2 h3 h4) n i vb vq b q w1 (hK) (hRb.ch hM.ch) (hRq.ch hM.ch) hlb) ?_
  rintro _ w2 ⟨v2, B2, rfl, hN2⟩
  have hM := hM.join hN2 (by simp [As.plain])
  simp only [List.cons_append, List.nil_append] at hM
  unfold leavesZ
  have hm1 := upsZ_mem (n := n) (i := i) (path := p) hla
  have hm2 := upsZ_mem (n := n) (i := i) (path := q) hlb
  have hml := upsZ_len (n := n) (i := i) (leaf := a) (path := p)
  generalize upsZ n i a p = xs at hM hm1 hml ⊢
  generalize upsZ n i b q = ys at hM hm2 ⊢
  generalize (climbZ n i zeroH p).2 = c1
  generalize (climbZ n i zeroH q).2 = c2
  repeat (first | ((with_reducible apply is_ld); first | refine kld hM ?_ | refine kldw hM ?_ | refine kle hM ?_ | refine klew hM ?_) | ((with_reducible apply is_sto); first | (refine kst hM ?_; intro w hM) | (refine kstw hM ?_; intro w hM)) | ((with_reducible apply is_st); refine su ?_) | ((with_reducible apply is_gd); first | refine gt ?_ | refine gf ?_ | refine gu ?_) | ((with_reducible apply is_en); refine en ?_) | (with_reducible first | apply x_then | apply wp_seq | apply c_region | apply wp_block | apply wp_skip | apply wp_exit | apply wp_ret | apply wp_label | apply wp_scope_straight | apply x_ng | apply x_ng_ret | apply x_ng_exit | apply x_then_ret | apply x_then_exit | apply x_block | apply x_block_ret | apply x_block_exit | refine x_block_other (by decide) ?_))
  have none_ : ∀ {fn : Func} {l : List Value}, fn.results = #[.tmp 12, .tmp 13, .tmp 14] → ev l (.tmp 12) = .slice none 0 0 → ev l (.tmp 13) = .slice none 0 0 → ev l (.tmp 14) = .bool false → bodyPost Tryd.prog fn (Ret fun u w' => ∃ v1 v2, u = .tuple #[v1, v2, .bool (none : Option (List UInt8 × List UInt8)).isSome] ∧
      Mem [] w0 w' [.row eU8 5 v1 (fstL none), .row eU8 5 v2 (sndL none)]) .ret (fr l) w2 := fun hr h1 h2 h3 => out3 hr ⟨_, _, by rw [h1, h2, h3]; rfl, (hM.nil.nilRow eU8 5).nilRow eU8 5⟩
  cases c1 with
  | false =>
    rw [if_neg (by simp)]
    repeat (first | ((with_reducible apply is_ld); first | refine kld hM ?_ | refine kldw hM ?_ | refine kle hM ?_ | refine klew hM ?_) | ((with_reducible apply is_sto); first | (refine kst hM ?_; intro w hM) | (refine kstw hM ?_; intro w hM)) | ((with_reducible apply is_st); refine su ?_) | ((with_reducible apply is_gd); first | refine gt ?_ | refine gf ?_ | refine gu ?_) | ((with_reducible apply is_en); refine en ?_) | (with_reducible first | apply x_then | apply wp_seq | apply c_region | apply wp_block | apply wp_skip | apply wp_exit | apply wp_ret | apply wp_label | apply wp_scope_straight | apply x_ng | apply x_ng_ret | apply x_ng_exit | apply x_then_ret | apply x_then_exit | apply x_block | apply x_block_ret | apply x_block_exit | refine x_block_other (by decide) ?_))
    refine c_condb rfl (fun _ => ?_) (fun h => by cases h)
    repeat (first | ((with_reducible apply is_ld); first | refine kld hM ?_ | refine kldw hM ?_ | refine kle hM ?_ | refine klew hM ?_) | ((with_reducible apply is_sto); first | (refine kst hM ?_; intro w hM) | (refine kstw hM ?_; intro w hM)) | ((with_reducible apply is_st); refine su ?_) | ((with_reducible apply is_gd); first | refine gt ?_ | refine gf ?_ | refine gu ?_) | ((with_reducible apply is_en); refine en ?_) | (with_reducible first | apply x_then | apply wp_seq | apply c_region | apply wp_block | apply wp_skip | apply wp_exit | apply wp_ret | apply wp_label | apply wp_scope_straight | apply x_ng | apply x_ng_ret | apply x_ng_exit | apply x_then_ret | apply x_then_exit | apply x_block | apply x_block_ret | apply x_block_exit | refine x_block_other (by decide) ?_))
    exact none_ rfl rfl rfl rfl
  | true =>
    cases c2 with
    | false =>
      rw [if_neg (by simp)]
      repeat (first | ((with_reducible apply is_ld); first | refine kld hM ?_ | refine kldw hM ?_ | refine kle hM ?_ | refine klew hM ?_) | ((with_reducible apply is_sto); first | (refine kst hM ?_; intro w hM) | (refine kstw hM ?_; intro w hM)) | ((with_reducible apply is_st); refine su ?_) | ((with_reducible apply is_gd); first | refine gt ?_ | refine gf ?_ | refine gu ?_) | ((with_reducible apply is_en); refine en ?_) | (with_reducible first | apply x_then | apply wp_seq | apply c_region | apply wp_block | apply wp_skip | apply wp_exit | apply wp_ret | apply wp_label | apply wp_scope_straight | apply x_ng | apply x_ng_ret | apply x_ng_exit | apply x_then_ret | apply x_then_exit | apply x_block | apply x_block_ret | apply x_block_exit | refine x_block_other (by decide) ?_))
      refine c_condb rfl (fun _ => ?_) (fun h => by cases h)
      repeat (first | ((with_reducible apply is_ld); first | refine kld hM ?_ | refine kldw hM ?_ | refine kle hM ?_ | refine klew hM ?_) | ((with_reducible apply is_sto); first | (refine kst hM ?_; intro w hM) | (refine kstw hM ?_; intro w hM)) | ((with_reducible apply is_st); refine su ?_) | ((with_reducible apply is_gd); first | refine gt ?_ | refine gf ?_ | refine gu ?_) | ((with_reducible apply is_en); refine en ?_) | (with_reducible first | apply x_then | apply wp_seq | apply c_region | apply wp_block | apply wp_skip | apply wp_exit | apply wp_ret | apply wp_label | apply wp_scope_straight | apply x_ng | apply x_ng_ret | apply x_ng_exit | apply x_then_ret | apply x_then_exit | apply x_block | apply x_block_ret | apply x_block_exit | refine x_block_other (by decide) ?_))
      exact none_ rfl rfl rfl rfl
    | true =>
      rw [if_pos ⟨rfl, rfl⟩]
      repeat (first | ((with_reducible apply is_ld); first | refine kld hM ?_ | refine kldw hM ?_ | refine kle hM ?_ | refine klew hM ?_) | ((with_reducible apply is_sto); first | (refine kst hM ?_; intro w hM) | (refine kstw hM ?_; intro w hM)) | ((with_reducible apply is_st); refine su ?_) | ((with_reducible apply is_gd); first | refine gt ?_ | refine gf ?_ | refine gu ?_) | ((with_reducible apply is_en); refine en ?_) | (with_reducible first | apply x_then | apply wp_seq | apply c_region | apply wp_block | apply wp_skip | apply wp_exit | apply wp_ret | apply wp_label | apply wp_scope_straight | apply x_ng | apply x_ng_ret | apply x_ng_exit | apply x_then_ret | apply x_then_exit | apply x_block | apply x_block_ret | apply x_block_exit | refine x_block_other (by decide) ?_))
      refine c_condb rfl (fun h => by cases h) (fun _ => ?_)
      repeat (first | ((with_reducible apply is_ld); first | refine kld hM ?_ | refine kldw hM ?_ | refine kle hM ?_ | refine klew hM ?_) | ((with_reducible apply is_sto); first | (refine kst hM ?_; intro w hM) | (refine kstw hM ?_; intro w hM)) | ((with_reducible apply is_st); refine su ?_) | ((with_reducible apply is_gd); first | refine gt ?_ | refine gf ?_ | refine gu ?_) | ((with_reducible apply is_en); refine en ?_) | (with_reducible first | apply x_then | apply wp_seq | apply c_region | apply wp_block | apply wp_skip | apply wp_exit | apply wp_ret | apply wp_label | apply wp_scope_straight | apply x_ng | apply x_ng_ret | apply x_ng_exit | apply x_then_ret | apply x_then_exit | apply x_block | apply x_block_ret | apply x_block_exit | refine x_block_other (by decide) ?_))
      refine ca ((fun va vb xs ys w (_ : True) => rfirst_any va vb xs ys w) v1 v2 xs ys w2 (hK) (hM.frdRd (xs := xs) (by (repeat (first | exact Go.Proofs.E.Pick.here | apply Go.Proofs.E.Pick.there)))) (hM.frdRd (xs := ys) (by (repeat (first | exact Go.Proofs.E.Pick.here | apply Go.Proofs.E.Pick.there)))) hm1 hm2 (by omega)) ?_
      rintro _ w3 ⟨u1, u2, rfl, hN3⟩
      have hM := hM.nil.join hN3 (by simp [As.plain])
      repeat (first | ((with_reducible apply is_ld); first | refine kld hM ?_ | refine kldw hM ?_ | refine kle hM ?_ | refine klew hM ?_) | ((with_reducible apply is_sto); first | (refine kst hM ?_; intro w hM) | (refine kstw hM ?_; intro w hM)) | ((with_reducible apply is_st); refine su ?_) | ((with_reducible apply is_gd); first | refine gt ?_ | refine gf ?_ | refine gu ?_) | ((with_reducible apply is_en); refine en ?_) | (with_reducible first | apply x_then | apply wp_seq | apply c_region | apply wp_block | apply wp_skip | apply wp_exit | apply wp_ret | apply wp_label | apply wp_scope_straight | apply x_ng | apply x_ng_ret | apply x_ng_exit | apply x_then_ret | apply x_then_exit | apply x_block | apply x_block_ret | apply x_block_exit | refine x_block_other (by decide) ?_))
      exact out3 rfl ⟨_, _, rfl, hM⟩
end Go.Proofs.YtfldckjkipmibaaDoor

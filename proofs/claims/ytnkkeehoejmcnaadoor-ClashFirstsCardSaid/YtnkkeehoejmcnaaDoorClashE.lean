/- Walks: the inputs on a leaf's way up.
   Walks: the inputs on a leaf's way up. -/
import Derived.Test.YtnkkeehoejmcnaaDoorG1
import Derived.Test.YtnkkeehoejmcnaaDoorClashA
import Derived.Test.YtnkkeehoejmcnaaDoorClimb
import Derived.Test.YtnkkeehoejmcnaaDoorY
set_option linter.unusedVariables false
set_option linter.unusedSimpArgs false
namespace Go.Proofs.YtnkkeehoejmcnaaDoor
open Go Go.RowKit Go.Proofs.E
attribute [local irreducible] Go.wpList Go.Code.wp Go.Proofs.E.exec Go.Proofs.E.wpLexG
theorem atH_rd8 {S : List Nat} {w : World} {b o : Nat} {x : Hs} (h : (Ty.enc eH).At S w b o x) : tU8.Rd S w (.slice (some ⟨b, o, none⟩) 32 32) x.1 := by
  obtain ⟨hb, hn, cs, rfl, hr⟩ := h
  have hl : x.1.length = 32 := x.2
  refine ⟨by omega, some ⟨b, o, none⟩, 32, by rw [hl], by omega, fun _ => ⟨b, o, rfl, hb, hn, fun i y hy => ⟨hb, hn, _, rfl, fun j v hv => ?_⟩⟩⟩
  have hv' : [u8v y][j]? = some v := hv
  match j, hv' with
  | 0, hv' =>
    simp only [List.getElem?_cons_zero, Option.some.injEq] at hv'
    subst hv'
    have := hr i (u8v y) (by show (x.1.map u8v)[i]? = _; rw [List.getElem?_map, hy]; rfl)
    rw [show i * tU8.n = i from Nat.mul_one i]
    simpa using this
def shaH (bs : List UInt8) : Hs := ⟨shaOf bs, shaOf_len bs⟩
/-- One input more. -/
def stepW (path : List Hs) (l : List (List UInt8)) (x : Bool × Nat) : List (List UInt8) :=
  l ++ [1 :: (if x.1 = true then (path.getD x.2 zeroH).1 ++ shaOf (l.getLastD []) else shaOf (l.getLastD []) ++ (path.getD x.2 zeroH).1)]
def upsT (path : List Hs) (leaf : List UInt8) (sd : List Bool) : List (List UInt8) := sd.zipIdx.foldl (stepW path) [0 :: leaf]
theorem upsT_snoc (path : List Hs) (leaf : List UInt8) (sd : List Bool) (b : Bool) : upsT path leaf (sd ++ [b]) = stepW path (upsT path leaf sd) (b, sd.length) := by
  unfold upsT
  rw [List.zipIdx_append, List.foldl_append]
  simp
theorem stepW_len (path : List Hs) (l : List (List UInt8)) (x : Bool × Nat) : (stepW path l x).length = l.length + 1 := by simp [stepW]
theorem stepW_mem {path : List Hs} {l : List (List UInt8)} {x : Bool × Nat} {m : Nat} (hm : 65 ≤ m) (h : ∀ y ∈ l, y.length ≤ m) : ∀ y ∈ stepW path l x, y.length ≤ m := by
  intro y hy
  unfold stepW at hy
  rw [List.mem_append, List.mem_singleton] at hy
  rcases hy with hy | rfl
  · exact h y hy
  · have key : ∀ (p q : List UInt8) (c : Bool), p.length = 32 → q.length = 32 → ((1 : UInt8) :: (if c = true then p ++ q else q ++ p)).length ≤ m := by
      intro p q c hp hq
      cases c <;> simp [hp, hq] <;> omega
    exact key _ _ _ (path.getD x.2 zeroH).2 (shaOf_len _)
def sidesB (n i : Nat) : List Bool := (turnsN n i).reverse.map (·.2)
def upsZ (n i : Int) (leaf : List UInt8) (path : List Hs) : List (List UInt8) := if (climbZ n i zeroH path).2 = true then upsT path leaf (sidesB n.toNat i.toNat) else []
theorem climbZ_ok {n i : Int} {leaf : Hs} {path : List Hs} : (climbZ n i leaf path).2 = true ↔ inC n i = true ∧ (turnsN n.toNat i.toNat).length = path.length := by
  unfold climbZ
  split <;> simp_all
theorem getLastD_of {α : Type} {l : List α} {x d : α} (h : l[l.length - 1]? = some x) : l.getLastD d = x := by
  rw [List.getLastD_eq_getLast?, List.getLast?_eq_getElem?, h]
  rfl
set_option maxHeartbeats 4000000 in
theorem top_any (v : Value) (xss : List (List UInt8)) (w0 : World) (hK : Laid w0) (hR : (Ty.sl tU8).Rd [] w0 v xss) (hne : xss ≠ []) (hb : ∀ x ∈ xss, x.length ≤ 1099511627776) :
    Calls Tryd.prog 82 #[v] w0 (Ret fun u w' => u = hv (shaOf (xss.getLastD [])) ∧ Ch [] w0 w') := by
  obtain ⟨ps, rfl, hP, hp⟩ := hR.raw
  have hM := Mem.start w0
  have hle := hP.le
  obtain ⟨A, c, rfl⟩ := hP.form
  rw [List.length_map] at hle
  have hpl : 0 < ps.length := List.length_pos_iff.2 (fun h => hne (by rw [h]; rfl))
  refine enter [.slice A (ps.map (·.1)).length c, undef, undef, undef, undef, undef, undef, undef, undef, undef] Tryd.func82 rfl rfl ?_
  repeat (first | ((with_reducible apply is_ld); first | refine kld hM ?_ | refine kldw hM ?_ | refine kle hM ?_ | refine klew hM ?_) | ((with_reducible apply is_sto); first | (refine kst hM ?_; intro w hM) | (refine kstw hM ?_; intro w hM)) | ((with_reducible apply is_st); refine su ?_) | ((with_reducible apply is_gd); first | refine gt ?_ | refine gf ?_ | refine gu ?_) | ((with_reducible apply is_en); refine en ?_) | (with_reducible apply c_region) | refine ws ?_ | refine x_block_other (by decide) ?_)
  refine kal hM (fun w b2 hM => ?_)
  rw [List.length_map] at hP
  simp only [List.length_map]
  repeat (first | ((with_reducible apply is_ld); first | refine kld hM ?_ | refine kldw hM ?_ | refine kle hM ?_ | refine klew hM ?_) | ((with_reducible apply is_sto); first | (refine kst hM ?_; intro w hM) | (refine kstw hM ?_; intro w hM)) | ((with_reducible apply is_st); refine su ?_) | ((with_reducible apply is_gd); first | refine gt ?_ | refine gf ?_ | refine gu ?_) | ((with_reducible apply is_en); refine en ?_) | (with_reducible apply c_region) | refine ws ?_ | refine x_block_other (by decide) ?_)
  refine kix hP (fun b o x hx hA => ?_) (h1 := by simp; omega)
  refine kat hM hA ?_
  rw [show ((ps.length : Int) - 1).toNat = ps.length - 1 by omega, List.getElem?_map] at hx
  obtain ⟨p, hpx, rfl⟩ := Option.map_eq_some_iff.1 hx
  have hpm := List.mem_of_getElem? hpx
  have hlast : (ps.map (·.2)).getLastD [] = p.2 := getLastD_of (by rw [List.length_map, List.getElem?_map, hpx]; rfl)
  rw [hlast]
  repeat (first | ((with_reducible apply is_ld); first | refine kld hM ?_ | refine kldw hM ?_ | refine kle hM ?_ | refine klew hM ?_) | ((with_reducible apply is_sto); first | (refine kst hM ?_; intro w hM) | (refine kstw hM ?_; intro w hM)) | ((with_reducible apply is_st); refine su ?_) | ((with_reducible apply is_gd); first | refine gt ?_ | refine gf ?_ | refine gu ?_) | ((with_reducible apply is_en); refine en ?_) | (with_reducible apply c_region) | refine ws ?_ | refine x_block_other (by decide) ?_)
  refine kca hM (sum_any (slv p.1) p.2 w (hK.ch hM.ch (by simp)) ((hp p hpm).ch hM.ch) (by have := hb p.2 (List.mem_map_of_mem hpm); omega)) (X := hv (shaH p.2).1) (fun w hM => ?_)
  refine kstw (vs := (shaH p.2).1.map u8v) hM (fun w hM => ?_)
  repeat (first | ((with_reducible apply is_ld); first | refine kld hM ?_ | refine kldw hM ?_ | refine kle hM ?_ | refine klew hM ?_) | ((with_reducible apply is_sto); first | (refine kst hM ?_; intro w hM) | (refine kstw hM ?_; intro w hM)) | ((with_reducible apply is_st); refine su ?_) | ((with_reducible apply is_gd); first | refine gt ?_ | refine gf ?_ | refine gu ?_) | ((with_reducible apply is_en); refine en ?_) | (with_reducible apply c_region) | refine ws ?_ | refine x_block_other (by decide) ?_)
  exact koc hM rfl ⟨rfl, hM.ch⟩
end Go.Proofs.YtnkkeehoejmcnaaDoor
set_option linter.unusedVariables false
set_option linter.unusedSimpArgs false
namespace Go.Proofs.YtnkkeehoejmcnaaDoor
open Go Go.RowKit Go.Proofs.E
attribute [local irreducible] Go.wpList Go.Code.wp Go.Proofs.E.exec Go.Proofs.E.wpLexG
theorem sidesB_len (n i : Nat) : (sidesB n i).length = (turnsN n i).length := by simp [sidesB]
set_option maxHeartbeats 16000000 in
theorem cups_any (n i : Int) (vl vp : Value) (leaf : List UInt8) (path : List Hs) (w0 : World) (hK : Laid w0) (hRl : tU8.Rd [] w0 vl leaf) (hRp : (Ty.enc eH).Rd [] w0 vp path) (hll : leaf.length ≤ 1000000000) :
    Calls Tryd.prog 28 #[.int .i64 n, .int .i64 i, vl, vp] w0 (Ret fun u w' => ∃ v B, u = .tuple #[v, .bool (climbZ n i zeroH path).2] ∧ Mem [] w0 w' [.frd (Ty.sl tU8) B v (upsZ n i leaf path)]) := by
  have hM := Mem.start w0
  obtain ⟨ul, rfl⟩ := hRl.slv
  obtain ⟨up, rfl⟩ := hRp.slv
  refine enter [.int .i64 n, .int .i64 i, slv ul, slv up, undef, undef, undef, undef, undef, undef, undef, undef, undef, undef, undef, undef, undef, undef, undef, undef, undef, undef, undef, undef, undef, undef, undef, undef, undef, undef, undef, undef, undef, undef, undef, undef, undef, undef, undef, undef, undef, undef, undef, undef, undef, undef, undef, undef, undef, undef, undef, undef, undef, undef, undef, undef, undef, undef, undef, undef, undef, undef, undef, undef, undef, undef] Tryd.func28 rfl rfl ?_
  repeat (first | ((with_reducible apply is_ld); first | refine kld hM ?_ | refine kldw hM ?_ | refine kle hM ?_ | refine klew hM ?_) | ((with_reducible apply is_sto); first | (refine kst hM ?_; intro w hM) | (refine kstw hM ?_; intro w hM)) | ((with_reducible apply is_st); refine su ?_) | ((with_reducible apply is_gd); first | refine gt ?_ | refine gf ?_ | refine gu ?_) | ((with_reducible apply is_en); refine en ?_) | (with_reducible apply c_region) | refine ws ?_ | refine x_block_other (by decide) ?_)
  (try ((with_reducible apply is_gd); first | refine gt ?_ | refine gf ?_ | refine gu ?_)); refine wl_val (r_build_arr0 (e := 5)) ?_
  repeat (first | ((with_reducible apply is_ld); first | refine kld hM ?_ | refine kldw hM ?_ | refine kle hM ?_ | refine klew hM ?_) | ((with_reducible apply is_sto); first | (refine kst hM ?_; intro w hM) | (refine kstw hM ?_; intro w hM)) | ((with_reducible apply is_st); refine su ?_) | ((with_reducible apply is_gd); first | refine gt ?_ | refine gf ?_ | refine gu ?_) | ((with_reducible apply is_en); refine en ?_) | (with_reducible apply c_region) | refine ws ?_ | refine x_block_other (by decide) ?_)
  refine kca hM (climb_any n i zeroH (slv up) path w0 hK hRp) (fun w hM => ?_)
  unfold upsZ
  have hok := climbZ_ok (n := n) (i := i) (leaf := zeroH) (path := path)
  generalize climbZ n i zeroH path = cz at hok ⊢
  repeat (first | ((with_reducible apply is_ld); first | refine kld hM ?_ | refine kldw hM ?_ | refine kle hM ?_ | refine klew hM ?_) | ((with_reducible apply is_sto); first | (refine kst hM ?_; intro w hM) | (refine kstw hM ?_; intro w hM)) | ((with_reducible apply is_st); refine su ?_) | ((with_reducible apply is_gd); first | refine gt ?_ | refine gf ?_ | refine gu ?_) | ((with_reducible apply is_en); refine en ?_) | (with_reducible apply c_region) | refine ws ?_ | refine x_block_other (by decide) ?_)
  refine kal hM (fun w b10 hM => ?_)
  refine kstw (vs := cz.1.1.map u8v) hM (fun w hM => ?_)
  repeat (first | ((with_reducible apply is_ld); first | refine kld hM ?_ | refine kldw hM ?_ | refine kle hM ?_ | refine klew hM ?_) | ((with_reducible apply is_sto); first | (refine kst hM ?_; intro w hM) | (refine kstw hM ?_; intro w hM)) | ((with_reducible apply is_st); refine su ?_) | ((with_reducible apply is_gd); first | refine gt ?_ | refine gf ?_ | refine gu ?_) | ((with_reducible apply is_en); refine en ?_) | (with_reducible apply c_region) | refine ws ?_ | refine x_block_other (by decide) ?_)
  by_cases hc : cz.2 = true
  case neg =>
    rw [Bool.not_eq_true] at hc
    rw [hc]
    refine c_condb rfl (fun _ => ?_) (fun h => by cases h)
    repeat (first | ((with_reducible apply is_ld); first | refine kld hM ?_ | refine kldw hM ?_ | refine kle hM ?_ | refine klew hM ?_) | ((with_reducible apply is_sto); first | (refine kst hM ?_; intro w hM) | (refine kstw hM ?_; intro w hM)) | ((with_reducible apply is_st); refine su ?_) | ((with_reducible apply is_gd); first | refine gt ?_ | refine gf ?_ | refine gu ?_) | ((with_reducible apply is_en); refine en ?_) | (with_reducible apply c_region) | refine ws ?_ | refine x_block_other (by decide) ?_)
    exact out2 rfl ⟨_, _, rfl, (hM.nil.frd0 (Ty.sl tU8) none 0)⟩
  case pos =>
    rw [hc]
    refine c_condb rfl (fun h => by cases h) (fun _ => ?_)
    obtain ⟨hin, hlen⟩ := hok.1 hc
    unfold inC at hin
    simp only [Bool.and_eq_true, decide_eq_true_eq] at hin
    obtain ⟨N, rfl⟩ := Int.eq_ofNat_of_zero_le (by omega : 0 ≤ n)
    obtain ⟨I, rfl⟩ := Int.eq_ofNat_of_zero_le (by omega : 0 ≤ i)
    rw [Int.toNat_natCast, Int.toNat_natCast, ← sidesB_len] at hlen
    rw [Int.toNat_natCast, Int.toNat_natCast, if_pos rfl]
    have hsl : (sidesB N I).length ≤ N := by rw [sidesB_len]; exact turns_len N I
    repeat (first | ((with_reducible apply is_ld); first | refine kld hM ?_ | refine kldw hM ?_ | refine kle hM ?_ | refine klew hM ?_) | ((with_reducible apply is_sto); first | (refine kst hM ?_; intro w hM) | (refine kstw hM ?_; intro w hM)) | ((with_reducible apply is_st); refine su ?_) | ((with_reducible apply is_gd); first | refine gt ?_ | refine gf ?_ | refine gu ?_) | ((with_reducible apply is_en); refine en ?_) | (with_reducible apply c_region) | refine ws ?_ | refine x_block_other (by decide) ?_)
    refine kbs (en := eSl) (vs := [slv ul]) [ul] hM (fun w b28 hM => ?_)
    have hRb : (Ty.sl tU8).Rd [] w _ ([(ul, leaf)].map (·.2)) := Ty.Rd.unraw (hM.rowRd (en := eSl) (xs := [ul]) (by (repeat constructor)) (by simp)) (fun p hp => by simp at hp; subst hp; exact hRl.ch hM.ch)
    repeat (first | ((with_reducible apply is_ld); first | refine kld hM ?_ | refine kldw hM ?_ | refine kle hM ?_ | refine klew hM ?_) | ((with_reducible apply is_sto); first | (refine kst hM ?_; intro w hM) | (refine kstw hM ?_; intro w hM)) | ((with_reducible apply is_st); refine su ?_) | ((with_reducible apply is_gd); first | refine gt ?_ | refine gf ?_ | refine gu ?_) | ((with_reducible apply is_en); refine en ?_) | (with_reducible apply c_region) | refine ws ?_ | refine x_block_other (by decide) ?_)
    refine ca (bytes_any 0 _ _ w hRb (by simp; omega)) ?_
    rintro v29 w2 ⟨hO, hc2⟩
    have hM := hM.got hc2 hO
    obtain ⟨u29, rfl⟩ : ∃ u : SlV, v29 = slv u := by obtain ⟨A, c, rfl, _⟩ := hO.form; exact ⟨(A, _, c), rfl⟩
    have hM := hM.rowFrd (by simp; omega)
    have hM := (hM.many0 tU8).manyPut
    simp only [List.map_cons, List.map_nil, List.flatten_cons, List.flatten_nil, List.append_nil, List.nil_append] at hM
    refine kbs (en := eSl) (vs := [slv u29]) [u29] hM (fun w b30 hM => ?_)
    repeat (first | ((with_reducible apply is_ld); first | refine kld hM ?_ | refine kldw hM ?_ | refine kle hM ?_ | refine klew hM ?_) | ((with_reducible apply is_sto); first | (refine kst hM ?_; intro w hM) | (refine kstw hM ?_; intro w hM)) | ((with_reducible apply is_st); refine su ?_) | ((with_reducible apply is_gd); first | refine gt ?_ | refine gf ?_ | refine gu ?_) | ((with_reducible apply is_en); refine en ?_) | (with_reducible apply c_region) | refine ws ?_ | refine x_block_other (by decide) ?_)
    refine kcr hM (csides_any N I (by omega) (by omega) w) (fun vs w hM => ?_)
    have hM : Mem [] w0 w (.row eBool 4 vs (sidesB N I) :: _) := hM
    generalize sidesB N I = sd at hlen hsl hM ⊢
    obtain ⟨A3, c3, rfl, _⟩ := (hM.row0 (v := vs) (by (repeat constructor))).form
    repeat (first | ((with_reducible apply is_ld); first | refine kld hM ?_ | refine kldw hM ?_ | refine kle hM ?_ | refine klew hM ?_) | ((with_reducible apply is_sto); first | (refine kst hM ?_; intro w hM) | (refine kstw hM ?_; intro w hM)) | ((with_reducible apply is_st); refine su ?_) | ((with_reducible apply is_gd); first | refine gt ?_ | refine gf ?_ | refine gu ?_) | ((with_reducible apply is_en); refine en ?_) | (with_reducible apply c_region) | refine ws ?_ | refine x_block_other (by decide) ?_)
    have hM := hM.sub (M := [.row eBool 4 (.slice A3 sd.length c3) sd, .row eSl 28 (.slice (some ⟨b30, 0, none⟩) 1 1) [u29], .many tU8 _ [(u29, 0 :: leaf)]]) (by (repeat constructor))
    
    refine c_loop (fun k l w => ∃ (j : Nat) (uv : SlV) (ps : List (SlV × List UInt8)) (B : Nat → Prop), (∃ jj : Nat → Value, l = [jj 0, jj 1, slv ul, slv up, jj 4, jj 5, jj 6, jj 7, jj 8, jj 9, jj 10, jj 11, slv uv, jj 13, jj 14, jj 15, jj 16, jj 17, jj 18, jj 19, jj 20, jj 21, jj 22, jj 23, jj 24, jj 25, jj 26, jj 27, jj 28, jj 29, jj 30, jj 31, jj 32, .slice A3 sd.length c3, .int .i64 (sd.length : Int), .int .i64 (j : Int), jj 36, jj 37, jj 38, jj 39, jj 40, jj 41, jj 42, jj 43, jj 44, jj 45, jj 46, jj 47, jj 48, jj 49, jj 50, jj 51, jj 52, jj 53, jj 54, jj 55, jj 56, jj 57, jj 58, jj 59, jj 60, jj 61, jj 62, jj 63, jj 64, jj 65]) ∧ k + j = sd.length ∧ ps.length = j + 1 ∧ ps.map (fun p : SlV × List UInt8 => p.2) = upsT path leaf (sd.take j) ∧ (∀ x ∈ ps.map (fun p : SlV × List UInt8 => p.2), x.length ≤ 1000000065) ∧
      Mem [] w0 w [.row eBool 4 (.slice A3 sd.length c3) sd, .row eSl 28 (slv uv) (ps.map (fun p : SlV × List UInt8 => p.1)), .many tU8 B ps]) sd.length
      ⟨0, (some ⟨b30, 0, none⟩, 1, 1), [(u29, 0 :: leaf)], _, exj rfl, rfl, rfl, rfl, by simp; omega, hM⟩ ?_
    clear hM
    rintro k l w ⟨j, uv, ps, B, ⟨jj, rfl⟩, hkj, hpl, hps, hpb, hM⟩
    repeat (first | ((with_reducible apply is_ld); first | refine kld hM ?_ | refine kldw hM ?_ | refine kle hM ?_ | refine klew hM ?_) | ((with_reducible apply is_sto); first | (refine kst hM ?_; intro w hM) | (refine kstw hM ?_; intro w hM)) | ((with_reducible apply is_st); refine su ?_) | ((with_reducible apply is_gd); first | refine gt ?_ | refine gf ?_ | refine gu ?_) | ((with_reducible apply is_en); refine en ?_) | (with_reducible apply c_region) | refine ws ?_ | refine x_block_other (by decide) ?_)
    refine c_cond rfl (fun hj => ?_) (fun hj => ?_)
    · repeat (first | ((with_reducible apply is_ld); first | refine kld hM ?_ | refine kldw hM ?_ | refine kle hM ?_ | refine klew hM ?_) | ((with_reducible apply is_sto); first | (refine kst hM ?_; intro w hM) | (refine kstw hM ?_; intro w hM)) | ((with_reducible apply is_st); refine su ?_) | ((with_reducible apply is_gd); first | refine gt ?_ | refine gf ?_ | refine gu ?_) | ((with_reducible apply is_en); refine en ?_) | (with_reducible apply c_region) | refine ws ?_ | refine x_block_other (by decide) ?_)
      (try ((with_reducible apply is_gd); first | refine gt ?_ | refine gf ?_ | refine gu ?_)); refine ix (hM.rowRd (en := eBool) (xs := sd) (by (repeat constructor)) (by omega)) (fun b o x hx hA => ?_)
      (try ((with_reducible apply is_gd); first | refine gt ?_ | refine gf ?_ | refine gu ?_)); refine ld hA ?_
      rw [Int.toNat_natCast] at hx
      repeat (first | ((with_reducible apply is_ld); first | refine kld hM ?_ | refine kldw hM ?_ | refine kle hM ?_ | refine klew hM ?_) | ((with_reducible apply is_sto); first | (refine kst hM ?_; intro w hM) | (refine kstw hM ?_; intro w hM)) | ((with_reducible apply is_st); refine su ?_) | ((with_reducible apply is_gd); first | refine gt ?_ | refine gf ?_ | refine gu ?_) | ((with_reducible apply is_en); refine en ?_) | (with_reducible apply c_region) | refine ws ?_ | refine x_block_other (by decide) ?_)
      have hRw : (Ty.sl tU8).Rd [] w (slv uv) (ps.map (·.2)) := Ty.Rd.unraw (hM.rowRd (en := eSl) (by (repeat constructor)) (by simp; omega)) (hM.manyRd (by (repeat constructor)))
      refine kca hM (top_any (slv uv) _ w (hK.ch hM.ch (by simp)) hRw (fun h => by have := congrArg List.length h; simp at this; subst this; simp at hpl) (fun x hx => by have := hpb x hx; omega)) (X := hv (shaH ((ps.map (·.2)).getLastD [])).1) (fun w hM => ?_)
      refine kal hM (fun w b15 hM => ?_)
      refine kstw (vs := (shaH ((ps.map (·.2)).getLastD [])).1.map u8v) hM (fun w hM => ?_)
      generalize hhH : shaH ((ps.map (·.2)).getLastD []) = hH at hM
      repeat (first | ((with_reducible apply is_ld); first | refine kld hM ?_ | refine kldw hM ?_ | refine kle hM ?_ | refine klew hM ?_) | ((with_reducible apply is_sto); first | (refine kst hM ?_; intro w hM) | (refine kstw hM ?_; intro w hM)) | ((with_reducible apply is_st); refine su ?_) | ((with_reducible apply is_gd); first | refine gt ?_ | refine gf ?_ | refine gu ?_) | ((with_reducible apply is_en); refine en ?_) | (with_reducible apply c_region) | refine ws ?_ | refine x_block_other (by decide) ?_)
      have hjp : path[j]? = some (path.getD j zeroH) := by rw [List.getD_eq_getElem?_getD, List.getElem?_eq_getElem (by omega : j < path.length)]; rfl
      refine c_ordY ([], []) [] (by kernel_rfl) (by kernel_rfl) (by kernel_rfl) (fun w hc hs => ?_)
      have hM := hM.call hc
      refine ynp 0 rfl (by kernel_rfl) (by kernel_rfl) (fun _ => r_cut_arr0 rfl) rfl ?_
      (first | refine yn 1 rfl ?_ | refine ynt 1 rfl ?_ | refine ynff 1 rfl ?_); (first | refine yn 2 rfl ?_ | refine ynt 2 rfl ?_ | refine ynff 2 rfl ?_)
      refine kynx 3 rfl hRp rfl rfl rfl (by omega) (by omega) (fun bp op p hp hAp => ?_)
      rw [Int.toNat_natCast, hjp] at hp
      obtain rfl := Option.some.inj hp
      refine ynp 4 rfl (by kernel_rfl) (by kernel_rfl) (fun _ => r_cut_arr0 rfl) rfl ?_
      refine ynp 5 rfl (by kernel_rfl) (by kernel_rfl) (fun _ => r_bld (vs := [(0, .slice (some ⟨b15, 0, none⟩) 32 32), (1, .slice (some ⟨bp, op, none⟩) 32 32)]) (cells := #[.slice (some ⟨b15, 0, none⟩) 32 32, .slice (some ⟨bp, op, none⟩) 32 32]) rfl (by kernel_rfl)) rfl ?_
      refine yal1 6 hM (by kernel_rfl) rfl (fun w b16 hN16 hM => ?_)
      refine yst (n := 2) (vs := [.slice (some ⟨b15, 0, none⟩) 32 32, .slice (some ⟨bp, op, none⟩) 32 32]) 7 (by kernel_rfl) rfl (hM.blk (by (repeat constructor))) (.inl hN16) rfl rfl rfl rfl (by simp [Value.oneCell']) (fun w hB hc => ?_)
      have hM := hM.cellSet hB hc
      refine wy_done (by kernel_rfl) (fun w hc => ?_)
      have hM := hM.call hc
      generalize path.getD j zeroH = p at hjp hAp
      repeat (first | ((with_reducible apply is_ld); first | refine kld hM ?_ | refine kldw hM ?_ | refine kle hM ?_ | refine klew hM ?_) | ((with_reducible apply is_sto); first | (refine kst hM ?_; intro w hM) | (refine kstw hM ?_; intro w hM)) | ((with_reducible apply is_st); refine su ?_) | ((with_reducible apply is_gd); first | refine gt ?_ | refine gf ?_ | refine gu ?_) | ((with_reducible apply is_en); refine en ?_) | (with_reducible apply c_region) | refine ws ?_ | refine x_block_other (by decide) ?_)
      have hpR := atH_rd8 hAp
      have hsn : sd.take (j + 1) = sd.take j ++ [x] := by rw [List.take_add_one, hx]; rfl
      have htl : (sd.take j).length = j := by rw [List.length_take, Nat.min_eq_left (by omega)]
      have hup := upsT_snoc path leaf (sd.take j) x
      rw [← hsn, htl, ← hps] at hup
      have hpg : path.getD j zeroH = p := by rw [List.getD_eq_getElem?_getD, hjp]; rfl
      have hsw : stepW path (ps.map (·.2)) (x, j) = ps.map (·.2) ++ [1 :: (if x = true then p.1 ++ hH.1 else hH.1 ++ p.1)] := by
        unfold stepW
        rw [hpg, ← hhH]
        rfl
      have hmem := stepW_mem (path := path) (x := (x, j)) (m := 1000000065) (by omega) hpb
      rw [hsw] at hup hmem
      have hp32 : p.1.length = 32 := p.2
      have hh32 : hH.1.length = 32 := hH.2
      cases x with
      | true =>
        refine c_condb rfl (fun _ => ?_) (fun h => by cases h)
        repeat (first | ((with_reducible apply is_ld); first | refine kld hM ?_ | refine kldw hM ?_ | refine kle hM ?_ | refine klew hM ?_) | ((with_reducible apply is_sto); first | (refine kst hM ?_; intro w hM) | (refine kstw hM ?_; intro w hM)) | ((with_reducible apply is_st); refine su ?_) | ((with_reducible apply is_gd); first | refine gt ?_ | refine gf ?_ | refine gu ?_) | ((with_reducible apply is_en); refine en ?_) | (with_reducible apply c_region) | refine ws ?_ | refine x_block_other (by decide) ?_)
        refine kbs (en := eSl) (vs := [slv (some ⟨bp, op, none⟩, 32, 32), slv (some ⟨b15, 0, none⟩, 32, 32)]) [(some ⟨bp, op, none⟩, 32, 32), (some ⟨b15, 0, none⟩, 32, 32)] hM (fun w b60 hM => ?_)
        have hhR : tU8.Rd [] w (slv (some ⟨b15, 0, none⟩, 32, 32)) hH.1 := by
          have := (hM.blk (b := b15) (by (repeat constructor))).rd8 (S := []) (cap := 32) (by simp) (by omega) (by omega)
          rwa [hh32] at this
        have hpR2 : tU8.Rd [] w (slv (some ⟨bp, op, none⟩, 32, 32)) p.1 := hpR.ch hM.ch
        have hRb : (Ty.sl tU8).Rd [] w _ ([((some ⟨bp, op, none⟩, 32, 32), p.1), ((some ⟨b15, 0, none⟩, 32, 32), hH.1)].map (fun p : SlV × List UInt8 => p.2)) := Ty.Rd.unraw (hM.rowRd (en := eSl) (xs := [(some ⟨bp, op, none⟩, 32, 32), (some ⟨b15, 0, none⟩, 32, 32)]) (by (repeat constructor)) (by simp)) (fun p hp => by
          simp only [List.mem_cons, List.not_mem_nil, or_false] at hp
          rcases hp with rfl | rfl
          · exact hpR2
          · exact hhR)
        repeat (first | ((with_reducible apply is_ld); first | refine kld hM ?_ | refine kldw hM ?_ | refine kle hM ?_ | refine klew hM ?_) | ((with_reducible apply is_sto); first | (refine kst hM ?_; intro w hM) | (refine kstw hM ?_; intro w hM)) | ((with_reducible apply is_st); refine su ?_) | ((with_reducible apply is_gd); first | refine gt ?_ | refine gf ?_ | refine gu ?_) | ((with_reducible apply is_en); refine en ?_) | (with_reducible apply c_region) | refine ws ?_ | refine x_block_other (by decide) ?_)
        refine ca (bytes_any 1 _ _ w hRb (by simp [hp32, hh32])) ?_
        rintro v61 w2 ⟨hO, hc2⟩
        have hM := hM.got hc2 hO
        simp only [List.map_cons, List.map_nil, List.flatten_cons, List.flatten_nil, List.append_nil] at hM
        obtain ⟨u61, rfl⟩ : ∃ u : SlV, v61 = slv u := by obtain ⟨A, c, rfl, _⟩ := hO.form; exact ⟨(A, _, c), rfl⟩
        have hM := hM.rowFrd (by simp [hp32, hh32])
        have hM := (hM.pick (a := .many tU8 B ps) (by (repeat constructor))).manyPut
        refine kpu u61 hM (fun _ v63 w hM => ?_) (hb := by simp; omega) (h63 := by simp; omega)
        obtain ⟨u63, rfl⟩ : ∃ u : SlV, v63 = slv u := by obtain ⟨A, c, rfl, _⟩ := (hM.row0 (v := v63) (by (repeat constructor))).form; exact ⟨(A, _, c), rfl⟩
        repeat (first | ((with_reducible apply is_ld); first | refine kld hM ?_ | refine kldw hM ?_ | refine kle hM ?_ | refine klew hM ?_) | ((with_reducible apply is_sto); first | (refine kst hM ?_; intro w hM) | (refine kstw hM ?_; intro w hM)) | ((with_reducible apply is_st); refine su ?_) | ((with_reducible apply is_gd); first | refine gt ?_ | refine gf ?_ | refine gu ?_) | ((with_reducible apply is_en); refine en ?_) | (with_reducible apply c_region) | refine ws ?_ | refine x_block_other (by decide) ?_)
        refine x_goes (k - 1) rfl (by omega) ⟨j + 1, u63, ps ++ [(u61, 1 :: (p.1 ++ hH.1))], fun k => B k ∨ (slv u61).ownBlock = some k, exj rfl, by omega, by simp [hpl], ?_, ?_, ?_⟩
        · rw [hup, List.map_append]
          rfl
        · rw [List.map_append]
          exact hmem
        · rw [List.map_append]
          exact hM.sub (by (repeat constructor))
      | false =>
        refine c_condb rfl (fun h => by cases h) (fun _ => ?_)
        repeat (first | ((with_reducible apply is_ld); first | refine kld hM ?_ | refine kldw hM ?_ | refine kle hM ?_ | refine klew hM ?_) | ((with_reducible apply is_sto); first | (refine kst hM ?_; intro w hM) | (refine kstw hM ?_; intro w hM)) | ((with_reducible apply is_st); refine su ?_) | ((with_reducible apply is_gd); first | refine gt ?_ | refine gf ?_ | refine gu ?_) | ((with_reducible apply is_en); refine en ?_) | (with_reducible apply c_region) | refine ws ?_ | refine x_block_other (by decide) ?_)
        refine kbs (en := eSl) (vs := [slv (some ⟨b15, 0, none⟩, 32, 32), slv (some ⟨bp, op, none⟩, 32, 32)]) [(some ⟨b15, 0, none⟩, 32, 32), (some ⟨bp, op, none⟩, 32, 32)] hM (fun w b60 hM => ?_)
        have hhR : tU8.Rd [] w (slv (some ⟨b15, 0, none⟩, 32, 32)) hH.1 := by
          have := (hM.blk (b := b15) (by (repeat constructor))).rd8 (S := []) (cap := 32) (by simp) (by omega) (by omega)
          rwa [hh32] at this
        have hpR2 : tU8.Rd [] w (slv (some ⟨bp, op, none⟩, 32, 32)) p.1 := hpR.ch hM.ch
        have hRb : (Ty.sl tU8).Rd [] w _ ([((some ⟨b15, 0, none⟩, 32, 32), hH.1), ((some ⟨bp, op, none⟩, 32, 32), p.1)].map (fun p : SlV × List UInt8 => p.2)) := Ty.Rd.unraw (hM.rowRd (en := eSl) (xs := [(some ⟨b15, 0, none⟩, 32, 32), (some ⟨bp, op, none⟩, 32, 32)]) (by (repeat constructor)) (by simp)) (fun p hp => by
          simp only [List.mem_cons, List.not_mem_nil, or_false] at hp
          rcases hp with rfl | rfl
          · exact hhR
          · exact hpR2)
        repeat (first | ((with_reducible apply is_ld); first | refine kld hM ?_ | refine kldw hM ?_ | refine kle hM ?_ | refine klew hM ?_) | ((with_reducible apply is_sto); first | (refine kst hM ?_; intro w hM) | (refine kstw hM ?_; intro w hM)) | ((with_reducible apply is_st); refine su ?_) | ((with_reducible apply is_gd); first | refine gt ?_ | refine gf ?_ | refine gu ?_) | ((with_reducible apply is_en); refine en ?_) | (with_reducible apply c_region) | refine ws ?_ | refine x_block_other (by decide) ?_)
        refine ca (bytes_any 1 _ _ w hRb (by simp [hp32, hh32])) ?_
        rintro v61 w2 ⟨hO, hc2⟩
        have hM := hM.got hc2 hO
        simp only [List.map_cons, List.map_nil, List.flatten_cons, List.flatten_nil, List.append_nil] at hM
        obtain ⟨u61, rfl⟩ : ∃ u : SlV, v61 = slv u := by obtain ⟨A, c, rfl, _⟩ := hO.form; exact ⟨(A, _, c), rfl⟩
        have hM := hM.rowFrd (by simp [hp32, hh32])
        have hM := (hM.pick (a := .many tU8 B ps) (by (repeat constructor))).manyPut
        refine kpu u61 hM (fun _ v63 w hM => ?_) (hb := by simp; omega) (h63 := by simp; omega)
        obtain ⟨u63, rfl⟩ : ∃ u : SlV, v63 = slv u := by obtain ⟨A, c, rfl, _⟩ := (hM.row0 (v := v63) (by (repeat constructor))).form; exact ⟨(A, _, c), rfl⟩
        repeat (first | ((with_reducible apply is_ld); first | refine kld hM ?_ | refine kldw hM ?_ | refine kle hM ?_ | refine klew hM ?_) | ((with_reducible apply is_sto); first | (refine kst hM ?_; intro w hM) | (refine kstw hM ?_; intro w hM)) | ((with_reducible apply is_st); refine su ?_) | ((with_reducible apply is_gd); first | refine gt ?_ | refine gf ?_ | refine gu ?_) | ((with_reducible apply is_en); refine en ?_) | (with_reducible apply c_region) | refine ws ?_ | refine x_block_other (by decide) ?_)
        refine x_goes (k - 1) rfl (by omega) ⟨j + 1, u63, ps ++ [(u61, 1 :: (hH.1 ++ p.1))], fun k => B k ∨ (slv u61).ownBlock = some k, exj rfl, by omega, by simp [hpl], ?_, ?_, ?_⟩
        · rw [hup, List.map_append]
          rfl
        · rw [List.map_append]
          exact hmem
        · rw [List.map_append]
          exact hM.sub (by (repeat constructor))
    · repeat (first | ((with_reducible apply is_ld); first | refine kld hM ?_ | refine kldw hM ?_ | refine kle hM ?_ | refine klew hM ?_) | ((with_reducible apply is_sto); first | (refine kst hM ?_; intro w hM) | (refine kstw hM ?_; intro w hM)) | ((with_reducible apply is_st); refine su ?_) | ((with_reducible apply is_gd); first | refine gt ?_ | refine gf ?_ | refine gu ?_) | ((with_reducible apply is_en); refine en ?_) | (with_reducible apply c_region) | refine ws ?_ | refine x_block_other (by decide) ?_)
      have hj' : j = sd.length := by omega
      subst hj'
      rw [List.take_length] at hps
      have hM := (hM.sub (M := [.row eSl 28 (slv uv) (ps.map (·.1)), .many tU8 B ps]) (by (repeat constructor))).manyFrd (by omega)
      rw [hps] at hM
      exact out2 rfl ⟨_, _, rfl, hM⟩
end Go.Proofs.YtnkkeehoejmcnaaDoor

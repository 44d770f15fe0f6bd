/- Walks: the inputs on a leaf's way up. -/
import Derived.Test.YtfldckjkipmibaaDoorClashC
import Derived.Test.YtfldckjkipmibaaDoorClashD
import Derived.Test.YtfldckjkipmibaaDoorClimb
set_option linter.unusedVariables false
set_option linter.unusedSimpArgs false
namespace Go.Proofs.YtfldckjkipmibaaDoor
open Go Go.RowKit Go.Proofs.E
attribute [local irreducible] Go.wpList Go.Code.wp Go.Proofs.E.exec Go.Proofs.E.wpLexG
theorem atH_rd8 {S : List Nat} {w : World} {b o : Nat} {x : Hs} (h : (Ty.enc eH).At S w b o x) : tU8.Rd S w (.slice (some ⟨b, o, none⟩) 32 32) x.1 := by
  obtain ⟨hb, hn, cs, rfl, hr⟩ := h
  have hl : x.1.length = 32 := x.2
  refine ⟨by omega, some ⟨b, o, none⟩, 32, by rw [hl], by omega, fun _ => ⟨b, o, rfl, hb, hn, fun i y hy => ⟨hb, hn, _, rfl, fun j v hv => ?_⟩⟩⟩
  have hv' : [u8v y][j]? = some v := hv
  match j, hv' with
  | 0, hv' =>
    simp only [List.getElem?_cons_zero, Option.some.injEq] at hv'
    subst hv'
    have := hr i (u8v y) (by show (x.1.map u8v)[i]? = _; rw [List.getElem?_map, hy]; rfl)
    rw [show i * tU8.n = i from Nat.mul_one i]
    simpa using this
def shaH (bs : List UInt8) : Hs := ⟨shaOf bs, shaOf_len bs⟩
/-- One input more. -/
def stepW (path : List Hs) (l : List (List UInt8)) (x : Bool × Nat) : List (List UInt8) :=
  l ++ [1 :: (if x.1 = true then (path.getD x.2 zeroH).1 ++ shaOf (l.getLastD []) else shaOf (l.getLastD []) ++ (path.getD x.2 zeroH).1)]
def upsT (path : List Hs) (leaf : List UInt8) (sd : List Bool) : List (List UInt8) := sd.zipIdx.foldl (stepW path) [0 :: leaf]
theorem upsT_snoc (path : List Hs) (leaf : List UInt8) (sd : List Bool) (b : Bool) : upsT path leaf (sd ++ [b]) = stepW path (upsT path leaf sd) (b, sd.length) := by
  unfold upsT
  rw [List.zipIdx_append, List.foldl_append]
  simp
theorem stepW_len (path : List Hs) (l : List (List UInt8)) (x : Bool × Nat) : (stepW path l x).length = l.length + 1 := by simp [stepW]
theorem stepW_mem {path : List Hs} {l : List (List UInt8)} {x : Bool × Nat} {m : Nat} (hm : 65 ≤ m) (h : ∀ y ∈ l, y.length ≤ m) : ∀ y ∈ stepW path l x, y.length ≤ m := by
  intro y hy
  unfold stepW at hy
  rw [List.mem_append, List.mem_singleton] at hy
  rcases hy with hy | rfl
  · exact h y hy
  · have key : ∀ (p q : List UInt8) (c : Bool), p.length = 32 → q.length = 32 → ((1 : UInt8) :: (if c = true then p ++ q else q ++ p)).length ≤ m := by
      intro p q c hp hq
      cases c <;> simp [hp, hq] <;> omega
    exact key _ _ _ (path.getD x.2 zeroH).2 (shaOf_len _)
def sidesB (n i : Nat) : List Bool := (turnsN n i).reverse.map (·.2)
def upsZ (n i : Int) (leaf : List UInt8) (path : List Hs) : List (List UInt8) := if (climbZ n i zeroH path).2 = true then upsT path leaf (sidesB n.toNat i.toNat) else []
theorem climbZ_ok {n i : Int} {leaf : Hs} {path : List Hs} : (climbZ n i leaf path).2 = true ↔ inC n i = true ∧ (turnsN n.toNat i.toNat).length = path.length := by
  unfold climbZ
  split <;> simp_all
theorem getLastD_of {α : Type} {l : List α} {x d : α} (h : l[l.length - 1]? = some x) : l.getLastD d = x := by
  rw [List.getLastD_eq_getLast?, List.getLast?_eq_getElem?, h]
  rfl
set_option maxHeartbeats 4000000 in
theorem top_any (v : Value) (xss : List (List UInt8)) (w0 : World) (hK : Laid w0) (hR : (Ty.sl tU8).Rd [] w0 v xss) (hne : xss ≠ []) (hb : ∀ x ∈ xss, x.length ≤ 1099511627776) :
    Calls Tryd.prog 74 #[v] w0 (Ret fun u w' => u = hv (shaOf (xss.getLastD [])) ∧ Ch [] w0 w') := by
  obtain ⟨ps, rfl, hP, hp⟩ := hR.raw
  have hM := Mem.start w0
  have hle := hP.le
  obtain ⟨A, c, rfl⟩ := hP.form
  rw [List.length_map] at hle
  have hpl : 0 < ps.length := List.length_pos_iff.2 (fun h => hne (by rw [h]; rfl))
  refine enter [.slice A (ps.map (·.1)).length c, undef, undef, undef, undef, undef, undef, undef, undef, undef] Tryd.func74 rfl rfl ?_
  repeat (first | ((with_reducible apply is_ld); first | refine kld hM ?_ | refine kldw hM ?_ | refine kle hM ?_ | refine klew hM ?_) | ((with_reducible apply is_sto); first | (refine kst hM ?_; intro w hM) | (refine kstw hM ?_; intro w hM)) | ((with_reducible apply is_st); refine su ?_) | ((with_reducible apply is_gd); first | refine gt ?_ | refine gf ?_ | refine gu ?_) | ((with_reducible apply is_en); refine en ?_) | (with_reducible first | apply x_then | apply wp_seq | apply c_region | apply wp_block | apply wp_skip | apply wp_exit | apply wp_ret | apply wp_label | apply wp_scope_straight | apply x_ng | apply x_ng_ret | apply x_ng_exit | apply x_then_ret | apply x_then_exit | apply x_block | apply x_block_ret | apply x_block_exit | refine x_block_other (by decide) ?_))
  refine kal hM (fun w b2 hM => ?_)
  rw [List.length_map] at hP
  simp only [List.length_map]
  repeat (first | ((with_reducible apply is_ld); first | refine kld hM ?_ | refine kldw hM ?_ | refine kle hM ?_ | refine klew hM ?_) | ((with_reducible apply is_sto); first | (refine kst hM ?_; intro w hM) | (refine kstw hM ?_; intro w hM)) | ((with_reducible apply is_st); refine su ?_) | ((with_reducible apply is_gd); first | refine gt ?_ | refine gf ?_ | refine gu ?_) | ((with_reducible apply is_en); refine en ?_) | (with_reducible first | apply x_then | apply wp_seq | apply c_region | apply wp_block | apply wp_skip | apply wp_exit | apply wp_ret | apply wp_label | apply wp_scope_straight | apply x_ng | apply x_ng_ret | apply x_ng_exit | apply x_then_ret | apply x_then_exit | apply x_block | apply x_block_ret | apply x_block_exit | refine x_block_other (by decide) ?_))
  refine kix hP (fun b o x hx hA => ?_) (h1 := by simp; omega)
  refine kat hM hA ?_
  rw [show ((ps.length : Int) - 1).toNat = ps.length - 1 by omega, List.getElem?_map] at hx
  obtain ⟨p, hpx, rfl⟩ := Option.map_eq_some_iff.1 hx
  have hpm := List.mem_of_getElem? hpx
  have hlast : (ps.map (·.2)).getLastD [] = p.2 := getLastD_of (by rw [List.length_map, List.getElem?_map, hpx]; rfl)
  rw [hlast]
  repeat (first | ((with_reducible apply is_ld); first | refine kld hM ?_ | refine kldw hM ?_ | refine kle hM ?_ | refine klew hM ?_) | ((with_reducible apply is_sto); first | (refine kst hM ?_; intro w hM) | (refine kstw hM ?_; intro w hM)) | ((with_reducible apply is_st); refine su ?_) | ((with_reducible apply is_gd); first | refine gt ?_ | refine gf ?_ | refine gu ?_) | ((with_reducible apply is_en); refine en ?_) | (with_reducible first | apply x_then | apply wp_seq | apply c_region | apply wp_block | apply wp_skip | apply wp_exit | apply wp_ret | apply wp_label | apply wp_scope_straight | apply x_ng | apply x_ng_ret | apply x_ng_exit | apply x_then_ret | apply x_then_exit | apply x_block | apply x_block_ret | apply x_block_exit | refine x_block_other (by decide) ?_))
  refine kca hM (sum_any (slv p.1) p.2 w (hK.ch hM.ch (by simp)) ((hp p hpm).ch hM.ch) (by have := hb p.2 (List.mem_map_of_mem hpm); omega)) (X := hv (shaH p.2).1) (fun w hM => ?_)
  refine kstw (vs := (shaH p.2).1.map u8v) hM (fun w hM => ?_)
  repeat (first | ((with_reducible apply is_ld); first | refine kld hM ?_ | refine kldw hM ?_ | refine kle hM ?_ | refine klew hM ?_) | ((with_reducible apply is_sto); first | (refine kst hM ?_; intro w hM) | (refine kstw hM ?_; intro w hM)) | ((with_reducible apply is_st); refine su ?_) | ((with_reducible apply is_gd); first | refine gt ?_ | refine gf ?_ | refine gu ?_) | ((with_reducible apply is_en); refine en ?_) | (with_reducible first | apply x_then | apply wp_seq | apply c_region | apply wp_block | apply wp_skip | apply wp_exit | apply wp_ret | apply wp_label | apply wp_scope_straight | apply x_ng | apply x_ng_ret | apply x_ng_exit | apply x_then_ret | apply x_then_exit | apply x_block | apply x_block_ret | apply x_block_exit | refine x_block_other (by decide) ?_))
  exact koc hM rfl ⟨rfl, hM.ch⟩
end Go.Proofs.YtfldckjkipmibaaDoor

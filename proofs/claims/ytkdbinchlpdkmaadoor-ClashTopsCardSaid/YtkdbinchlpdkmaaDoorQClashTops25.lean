/- Walks: the inputs on a leaf's way up.
   Walks: the inputs on a leaf's way up.
   Walks: the inputs on a leaf's way up, the reference's.
   Walks: Ups, First and Leaves, both.
   Walks: of two leaves at one place, both.
   Drawn regions with operations that make new memory and that no edge orders: every order, one end.
   Walks: the inputs on a key's way.
   Walks: the inputs on a key's way, the reference's; two of one hash of two proofs, both.
   Walks: of two proofs of one key, both; whether lists of byte strings are the same; proofs in the document's form; what a key has.
   Walks: the document's examples.
   Walks: law 20's light and short; ClashLeaves.
   Walks: law 20's short; ClashSame. -/
import Derived.Test.YtkdbinchlpdkmaaDoorQClashTops15
import Derived.Test.YtkdbinchlpdkmaaDoorQClashTops24
import Derived.Test.YtkdbinchlpdkmaaDoorQClashTops23
import Derived.Test.YtkdbinchlpdkmaaDoorQClashTops22
import Derived.Test.YtkdbinchlpdkmaaDoorQClashTops13
set_option linter.unusedVariables false
set_option linter.unusedSimpArgs false
namespace Go.Proofs.YtkdbinchlpdkmaaDoor
open Go Go.RowKit Go.Proofs.E
attribute [local irreducible] Go.wpList Go.Code.wp Go.Proofs.E.exec Go.Proofs.E.wpLexG
theorem atH_rd8 {S : List Nat} {w : World} {b o : Nat} {x : Hs} (h : (Ty.enc eH).At S w b o x) : tU8.Rd S w (.slice (some ⟨b, o, none⟩) 32 32) x.1 := by
  obtain ⟨hb, hn, cs, rfl, hr⟩ := h
  have hl : x.1.length = 32 := x.2
  refine ⟨by omega, some ⟨b, o, none⟩, 32, by rw [hl], by omega, fun _ => ⟨b, o, rfl, hb, hn, fun i y hy => ⟨hb, hn, _, rfl, fun j v hv => ?_⟩⟩⟩
  have hv' : [u8v y][j]? = some v := hv
  match j, hv' with
  | 0, hv' =>
    simp only [List.getElem?_cons_zero, Option.some.injEq] at hv'
    subst hv'
    have := hr i (u8v y) (by show (x.1.map u8v)[i]? = _; rw [List.getElem?_map, hy]; rfl)
    rw [show i * tU8.n = i from Nat.mul_one i]
    simpa using this
/-- One input more. -/
def stepW (path : List Hs) (l : List (List UInt8)) (x : Bool × Nat) : List (List UInt8) :=
  l ++ [1 :: (if x.1 = true then (path.getD x.2 zeroH).1 ++ shaOf (l.getLastD []) else shaOf (l.getLastD []) ++ (path.getD x.2 zeroH).1)]
def upsT (path : List Hs) (leaf : List UInt8) (sd : List Bool) : List (List UInt8) := sd.zipIdx.foldl (stepW path) [0 :: leaf]
theorem upsT_snoc (path : List Hs) (leaf : List UInt8) (sd : List Bool) (b : Bool) : upsT path leaf (sd ++ [b]) = stepW path (upsT path leaf sd) (b, sd.length) := by
  unfold upsT
  rw [List.zipIdx_append, List.foldl_append]
  simp
theorem stepW_len (path : List Hs) (l : List (List UInt8)) (x : Bool × Nat) : (stepW path l x).length = l.length + 1 := by simp [stepW]
theorem stepW_mem {path : List Hs} {l : List (List UInt8)} {x : Bool × Nat} {m : Nat} (hm : 65 ≤ m) (h : ∀ y ∈ l, y.length ≤ m) : ∀ y ∈ stepW path l x, y.length ≤ m := by
  intro y hy
  unfold stepW at hy
  rw [List.mem_append, List.mem_singleton] at hy
  rcases hy with hy | rfl
  · exact h y hy
  · have key : ∀ (p q : List UInt8) (c : Bool), p.length = 32 → q.length = 32 → ((1 : UInt8) :: (if c = true then p ++ q else q ++ p)).length ≤ m := by
      intro p q c hp hq
      cases c <;> simp [hp, hq] <;> omega
    exact key _ _ _ (path.getD x.2 zeroH).2 (shaOf_len _)
def sidesB (n i : Nat) : List Bool := (turnsN n i).reverse.map (·.2)
def upsZ (n i : Int) (leaf : List UInt8) (path : List Hs) : List (List UInt8) := if (climbZ n i zeroH path).2 = true then upsT path leaf (sidesB n.toNat i.toNat) else []
theorem climbZ_ok {n i : Int} {leaf : Hs} {path : List Hs} : (climbZ n i leaf path).2 = true ↔ inC n i = true ∧ (turnsN n.toNat i.toNat).length = path.length := by
  unfold climbZ
  split <;> simp_all
theorem getLastD_of {α : Type} {l : List α} {x d : α} (h : l[l.length - 1]? = some x) : l.getLastD d = x := by
  rw [List.getLastD_eq_getLast?, List.getLast?_eq_getElem?, h]
  rfl
set_option maxHeartbeats 4000000 in
theorem top_any (v : Value) (xss : List (List UInt8)) (w0 : World) (hK : Laid w0) (hR : (Ty.sl tU8).Rd [] w0 v xss) (hne : xss ≠ []) (hb : ∀ x ∈ xss, x.length ≤ 1099511627776) :
    Calls Tryd.prog 56 #[v] w0 (Ret fun u w' => u = hv (shaOf (xss.getLastD [])) ∧ Ch [] w0 w') := by
  obtain ⟨ps, rfl, hP, hp⟩ := hR.raw
  have hM := Mem.start w0
  have hle := hP.le
  obtain ⟨A, c, rfl⟩ := hP.form
  rw [List.length_map] at hle
  have hpl : 0 < ps.length := List.length_pos_iff.2 (fun h => hne (by rw [h]; rfl))
  refine enter [.slice A (ps.map (·.1)).length c, undef, undef, undef, undef, undef, undef, undef, undef, undef] Tryd.func56 rfl rfl ?_
  repeat (first | refine gw ?_ | (refine ks ?_; intro w hM))
  refine kal hM (fun w b2 hM => ?_)
  rw [List.length_map] at hP
  simp only [List.length_map]
  repeat (first | refine gw ?_ | (refine ks ?_; intro w hM))
  refine kix hP (fun b o x hx hA => ?_) (h1 := by simp; omega)
  refine kat hM hA ?_
  rw [show ((ps.length : Int) - 1).toNat = ps.length - 1 by omega, List.getElem?_map] at hx
  obtain ⟨p, hpx, rfl⟩ := Option.map_eq_some_iff.1 hx
  have hpm := List.mem_of_getElem? hpx
  have hlast : (ps.map (·.2)).getLastD [] = p.2 := getLastD_of (by rw [List.length_map, List.getElem?_map, hpx]; rfl)
  rw [hlast]
  repeat (first | refine gw ?_ | (refine ks ?_; intro w hM))
  refine kca hM (sum_any (slv p.1) p.2 w (hK.ch hM.ch (by simp)) ((hp p hpm).ch hM.ch) (by have := hb p.2 (List.mem_map_of_mem hpm); omega)) (X := hv (shaH p.2).1) (fun w hM => ?_)
  refine kstw (vs := (shaH p.2).1.map u8v) hM (fun w hM => ?_)
  repeat (first | refine gw ?_ | (refine ks ?_; intro w hM))
  exact koc hM rfl ⟨rfl, hM.ch⟩
end Go.Proofs.YtkdbinchlpdkmaaDoor
set_option linter.unusedVariables false
set_option linter.unusedSimpArgs false
namespace Go.Proofs.YtkdbinchlpdkmaaDoor
open Go Go.RowKit Go.Proofs.E
attribute [local irreducible] Go.wpList Go.Code.wp Go.Proofs.E.exec Go.Proofs.E.wpLexG
theorem sidesB_len (n i : Nat) : (sidesB n i).length = (turnsN n i).length := by simp [sidesB]
set_option maxHeartbeats 16000000 in
theorem cups_any (n i : Int) (vl vp : Value) (leaf : List UInt8) (path : List Hs) (w0 : World) (hK : Laid w0) (hRl : tU8.Rd [] w0 vl leaf) (hRp : (Ty.enc eH).Rd [] w0 vp path) (hll : leaf.length ≤ 1000000000) :
    Calls Tryd.prog 16 #[.int .i64 n, .int .i64 i, vl, vp] w0 (Ret fun u w' => ∃ v B, u = .tuple #[v, .bool (climbZ n i zeroH path).2] ∧ Mem [] w0 w' [.frd (Ty.sl tU8) B v (upsZ n i leaf path)]) := by
  have hM := Mem.start w0
  obtain ⟨ul, rfl⟩ := hRl.slv
  obtain ⟨up, rfl⟩ := hRp.slv
  refine enter [.int .i64 n, .int .i64 i, slv ul, slv up, undef, undef, undef, undef, undef, undef, undef, undef, undef, undef, undef, undef, undef, undef, undef, undef, undef, undef, undef, undef, undef, undef, undef, undef, undef, undef, undef, undef, undef, undef, undef, undef, undef, undef, undef, undef, undef, undef, undef, undef, undef, undef, undef, undef, undef, undef, undef, undef, undef, undef, undef, undef, undef, undef, undef, undef, undef, undef, undef, undef, undef, undef] Tryd.func16 rfl rfl ?_
  repeat (first | refine gw ?_ | (refine ks ?_; intro w hM))
  (try ((with_reducible apply is_gd); first | refine gt ?_ | refine gf ?_ | refine gu ?_)); refine wl_val (r_build_arr0 (e := 5)) ?_
  repeat (first | refine gw ?_ | (refine ks ?_; intro w hM))
  refine kca hM (climb_any n i zeroH (slv up) path w0 hK hRp) (fun w hM => ?_)
  unfold upsZ
  have hok := climbZ_ok (n := n) (i := i) (leaf := zeroH) (path := path)
  generalize climbZ n i zeroH path = cz at hok ⊢
  repeat (first | refine gw ?_ | (refine ks ?_; intro w hM))
  refine kal hM (fun w b10 hM => ?_)
  refine kstw (vs := cz.1.1.map u8v) hM (fun w hM => ?_)
  repeat (first | refine gw ?_ | (refine ks ?_; intro w hM))
  by_cases hc : cz.2 = true
  case neg =>
    rw [Bool.not_eq_true] at hc
    rw [hc]
    refine c_condb rfl (fun _ => ?_) (fun h => by cases h)
    repeat (first | refine gw ?_ | (refine ks ?_; intro w hM))
    exact out2 rfl ⟨_, _, rfl, (hM.nil.frd0 (Ty.sl tU8) none 0)⟩
  case pos =>
    rw [hc]
    refine c_condb rfl (fun h => by cases h) (fun _ => ?_)
    obtain ⟨hin, hlen⟩ := hok.1 hc
    unfold inC at hin
    simp only [Bool.and_eq_true, decide_eq_true_eq] at hin
    obtain ⟨N, rfl⟩ := Int.eq_ofNat_of_zero_le (by omega : 0 ≤ n)
    obtain ⟨I, rfl⟩ := Int.eq_ofNat_of_zero_le (by omega : 0 ≤ i)
    rw [Int.toNat_natCast, Int.toNat_natCast, ← sidesB_len] at hlen
    rw [Int.toNat_natCast, Int.toNat_natCast, if_pos rfl]
    have hsl : (sidesB N I).length ≤ N := by rw [sidesB_len]; exact turns_len N I
    repeat (first | refine gw ?_ | (refine ks ?_; intro w hM))
    refine kbs (en := eSl) (vs := [slv ul]) [ul] hM (fun w b28 hM => ?_)
    have hRb : (Ty.sl tU8).Rd [] w _ ([(ul, leaf)].map (·.2)) := Ty.Rd.unraw (hM.rowRd (en := eSl) (xs := [ul]) (by (repeat constructor)) (by simp)) (fun p hp => by simp at hp; subst hp; exact hRl.ch hM.ch)
    repeat (first | refine gw ?_ | (refine ks ?_; intro w hM))
    refine ca (bytes_any 0 _ _ w hRb (by simp; omega)) ?_
    rintro v29 w2 ⟨hO, hc2⟩
    have hM := hM.got hc2 hO
    obtain ⟨u29, rfl⟩ : ∃ u : SlV, v29 = slv u := by obtain ⟨A, c, rfl, _⟩ := hO.form; exact ⟨(A, _, c), rfl⟩
    have hM := hM.rowFrd (by simp; omega)
    have hM := (hM.many0 tU8).manyPut
    simp only [List.map_cons, List.map_nil, List.flatten_cons, List.flatten_nil, List.append_nil, List.nil_append] at hM
    refine kbs (en := eSl) (vs := [slv u29]) [u29] hM (fun w b30 hM => ?_)
    repeat (first | refine gw ?_ | (refine ks ?_; intro w hM))
    refine kcr hM (csides_any N I (by omega) (by omega) w) (fun vs w hM => ?_)
    have hM : Mem [] w0 w (.row eBool 4 vs (sidesB N I) :: _) := hM
    generalize sidesB N I = sd at hlen hsl hM ⊢
    obtain ⟨A3, c3, rfl, _⟩ := (hM.row0 (v := vs) (by (repeat constructor))).form
    repeat (first | refine gw ?_ | (refine ks ?_; intro w hM))
    have hM := hM.sub (M := [.row eBool 4 (.slice A3 sd.length c3) sd, .row eSl 28 (.slice (some ⟨b30, 0, none⟩) 1 1) [u29], .many tU8 _ [(u29, 0 :: leaf)]]) (by (repeat constructor))
    
    refine c_loop (fun k l w => ∃ (j : Nat) (uv : SlV) (ps : List (SlV × List UInt8)) (B : Nat → Prop), (∃ jj : Nat → Value, l = [jj 0, jj 1, slv ul, slv up, jj 4, jj 5, jj 6, jj 7, jj 8, jj 9, jj 10, jj 11, slv uv, jj 13, jj 14, jj 15, jj 16, jj 17, jj 18, jj 19, jj 20, jj 21, jj 22, jj 23, jj 24, jj 25, jj 26, jj 27, jj 28, jj 29, jj 30, jj 31, jj 32, .slice A3 sd.length c3, .int .i64 (sd.length : Int), .int .i64 (j : Int), jj 36, jj 37, jj 38, jj 39, jj 40, jj 41, jj 42, jj 43, jj 44, jj 45, jj 46, jj 47, jj 48, jj 49, jj 50, jj 51, jj 52, jj 53, jj 54, jj 55, jj 56, jj 57, jj 58, jj 59, jj 60, jj 61, jj 62, jj 63, jj 64, jj 65]) ∧ k + j = sd.length ∧ ps.length = j + 1 ∧ ps.map (fun p : SlV × List UInt8 => p.2) = upsT path leaf (sd.take j) ∧ (∀ x ∈ ps.map (fun p : SlV × List UInt8 => p.2), x.length ≤ 1000000065) ∧
      Mem [] w0 w [.row eBool 4 (.slice A3 sd.length c3) sd, .row eSl 28 (slv uv) (ps.map (fun p : SlV × List UInt8 => p.1)), .many tU8 B ps]) sd.length
      ⟨0, (some ⟨b30, 0, none⟩, 1, 1), [(u29, 0 :: leaf)], _, exj rfl, rfl, rfl, rfl, by simp; omega, hM⟩ ?_
    clear hM
    rintro k l w ⟨j, uv, ps, B, ⟨jj, rfl⟩, hkj, hpl, hps, hpb, hM⟩
    repeat (first | refine gw ?_ | (refine ks ?_; intro w hM))
    refine c_cond rfl (fun hj => ?_) (fun hj => ?_)
    · repeat (first | refine gw ?_ | (refine ks ?_; intro w hM))
      (try ((with_reducible apply is_gd); first | refine gt ?_ | refine gf ?_ | refine gu ?_)); refine ix (hM.rowRd (en := eBool) (xs := sd) (by (repeat constructor)) (by omega)) (fun b o x hx hA => ?_)
      (try ((with_reducible apply is_gd); first | refine gt ?_ | refine gf ?_ | refine gu ?_)); refine ld hA ?_
      rw [Int.toNat_natCast] at hx
      repeat (first | refine gw ?_ | (refine ks ?_; intro w hM))
      have hRw : (Ty.sl tU8).Rd [] w (slv uv) (ps.map (·.2)) := Ty.Rd.unraw (hM.rowRd (en := eSl) (by (repeat constructor)) (by simp; omega)) (hM.manyRd (by (repeat constructor)))
      refine kca hM (top_any (slv uv) _ w (hK.ch hM.ch (by simp)) hRw (fun h => by have := congrArg List.length h; simp at this; subst this; simp at hpl) (fun x hx => by have := hpb x hx; omega)) (X := hv (shaH ((ps.map (·.2)).getLastD [])).1) (fun w hM => ?_)
      refine kal hM (fun w b15 hM => ?_)
      refine kstw (vs := (shaH ((ps.map (·.2)).getLastD [])).1.map u8v) hM (fun w hM => ?_)
      generalize hhH : shaH ((ps.map (·.2)).getLastD []) = hH at hM
      repeat (first | refine gw ?_ | (refine ks ?_; intro w hM))
      have hjp : path[j]? = some (path.getD j zeroH) := by rw [List.getD_eq_getElem?_getD, List.getElem?_eq_getElem (by omega : j < path.length)]; rfl
      refine c_ordY ([], []) [] (by kernel_rfl) (by kernel_rfl) (by kernel_rfl) (fun w hc hs => ?_)
      have hM := hM.call hc
      refine ynp 0 rfl (by kernel_rfl) (by kernel_rfl) (fun _ => r_cut_arr0 rfl) rfl ?_
      (first | refine yn 1 rfl ?_ | refine ynt 1 rfl ?_ | refine ynff 1 rfl ?_); (first | refine yn 2 rfl ?_ | refine ynt 2 rfl ?_ | refine ynff 2 rfl ?_)
      refine kynx 3 rfl hRp rfl rfl rfl (by omega) (by omega) (fun bp op p hp hAp => ?_)
      rw [Int.toNat_natCast, hjp] at hp
      obtain rfl := Option.some.inj hp
      refine ynp 4 rfl (by kernel_rfl) (by kernel_rfl) (fun _ => r_cut_arr0 rfl) rfl ?_
      refine ynp 5 rfl (by kernel_rfl) (by kernel_rfl) (fun _ => r_bld (vs := [(0, .slice (some ⟨b15, 0, none⟩) 32 32), (1, .slice (some ⟨bp, op, none⟩) 32 32)]) (cells := #[.slice (some ⟨b15, 0, none⟩) 32 32, .slice (some ⟨bp, op, none⟩) 32 32]) rfl (by kernel_rfl)) rfl ?_
      refine yal1 6 hM (by kernel_rfl) rfl (fun w b16 hN16 hM => ?_)
      refine yst (n := 2) (vs := [.slice (some ⟨b15, 0, none⟩) 32 32, .slice (some ⟨bp, op, none⟩) 32 32]) 7 (by kernel_rfl) rfl (hM.blk (by (repeat constructor))) (.inl hN16) rfl rfl rfl rfl (by simp [Value.oneCell']) (fun w hB hc => ?_)
      have hM := hM.cellSet hB hc
      refine wy_done (by kernel_rfl) (fun w hc => ?_)
      have hM := hM.call hc
      generalize path.getD j zeroH = p at hjp hAp
      repeat (first | refine gw ?_ | (refine ks ?_; intro w hM))
      have hpR := atH_rd8 hAp
      have hsn : sd.take (j + 1) = sd.take j ++ [x] := by rw [List.take_add_one, hx]; rfl
      have htl : (sd.take j).length = j := by rw [List.length_take, Nat.min_eq_left (by omega)]
      have hup := upsT_snoc path leaf (sd.take j) x
      rw [← hsn, htl, ← hps] at hup
      have hpg : path.getD j zeroH = p := by rw [List.getD_eq_getElem?_getD, hjp]; rfl
      have hsw : stepW path (ps.map (·.2)) (x, j) = ps.map (·.2) ++ [1 :: (if x = true then p.1 ++ hH.1 else hH.1 ++ p.1)] := by
        unfold stepW
        rw [hpg, ← hhH]
        rfl
      have hmem := stepW_mem (path := path) (x := (x, j)) (m := 1000000065) (by omega) hpb
      rw [hsw] at hup hmem
      have hp32 : p.1.length = 32 := p.2
      have hh32 : hH.1.length = 32 := hH.2
      cases x with
      | true =>
        refine c_condb rfl (fun _ => ?_) (fun h => by cases h)
        repeat (first | refine gw ?_ | (refine ks ?_; intro w hM))
        refine kbs (en := eSl) (vs := [slv (some ⟨bp, op, none⟩, 32, 32), slv (some ⟨b15, 0, none⟩, 32, 32)]) [(some ⟨bp, op, none⟩, 32, 32), (some ⟨b15, 0, none⟩, 32, 32)] hM (fun w b60 hM => ?_)
        have hhR : tU8.Rd [] w (slv (some ⟨b15, 0, none⟩, 32, 32)) hH.1 := by
          have := (hM.blk (b := b15) (by (repeat constructor))).rd8 (S := []) (cap := 32) (by simp) (by omega) (by omega)
          rwa [hh32] at this
        have hpR2 : tU8.Rd [] w (slv (some ⟨bp, op, none⟩, 32, 32)) p.1 := hpR.ch hM.ch
        have hRb : (Ty.sl tU8).Rd [] w _ ([((some ⟨bp, op, none⟩, 32, 32), p.1), ((some ⟨b15, 0, none⟩, 32, 32), hH.1)].map (fun p : SlV × List UInt8 => p.2)) := Ty.Rd.unraw (hM.rowRd (en := eSl) (xs := [(some ⟨bp, op, none⟩, 32, 32), (some ⟨b15, 0, none⟩, 32, 32)]) (by (repeat constructor)) (by simp)) (fun p hp => by
          simp only [List.mem_cons, List.not_mem_nil, or_false] at hp
          rcases hp with rfl | rfl
          · exact hpR2
          · exact hhR)
        repeat (first | refine gw ?_ | (refine ks ?_; intro w hM))
        refine ca (bytes_any 1 _ _ w hRb (by simp [hp32, hh32])) ?_
        rintro v61 w2 ⟨hO, hc2⟩
        have hM := hM.got hc2 hO
        simp only [List.map_cons, List.map_nil, List.flatten_cons, List.flatten_nil, List.append_nil] at hM
        obtain ⟨u61, rfl⟩ : ∃ u : SlV, v61 = slv u := by obtain ⟨A, c, rfl, _⟩ := hO.form; exact ⟨(A, _, c), rfl⟩
        have hM := hM.rowFrd (by simp [hp32, hh32])
        have hM := (hM.pick (a := .many tU8 B ps) (by (repeat constructor))).manyPut
        refine kpu u61 hM (fun _ v63 w hM => ?_) (hb := by simp; omega) (h63 := by simp; omega)
        obtain ⟨u63, rfl⟩ : ∃ u : SlV, v63 = slv u := by obtain ⟨A, c, rfl, _⟩ := (hM.row0 (v := v63) (by (repeat constructor))).form; exact ⟨(A, _, c), rfl⟩
        repeat (first | refine gw ?_ | (refine ks ?_; intro w hM))
        refine x_goes (k - 1) rfl (by omega) ⟨j + 1, u63, ps ++ [(u61, 1 :: (p.1 ++ hH.1))], fun k => B k ∨ (slv u61).ownBlock = some k, exj rfl, by omega, by simp [hpl], ?_, ?_, ?_⟩
        · rw [hup, List.map_append]
          rfl
        · rw [List.map_append]
          exact hmem
        · rw [List.map_append]
          exact hM.sub (by (repeat constructor))
      | false =>
        refine c_condb rfl (fun h => by cases h) (fun _ => ?_)
        repeat (first | refine gw ?_ | (refine ks ?_; intro w hM))
        refine kbs (en := eSl) (vs := [slv (some ⟨b15, 0, none⟩, 32, 32), slv (some ⟨bp, op, none⟩, 32, 32)]) [(some ⟨b15, 0, none⟩, 32, 32), (some ⟨bp, op, none⟩, 32, 32)] hM (fun w b60 hM => ?_)
        have hhR : tU8.Rd [] w (slv (some ⟨b15, 0, none⟩, 32, 32)) hH.1 := by
          have := (hM.blk (b := b15) (by (repeat constructor))).rd8 (S := []) (cap := 32) (by simp) (by omega) (by omega)
          rwa [hh32] at this
        have hpR2 : tU8.Rd [] w (slv (some ⟨bp, op, none⟩, 32, 32)) p.1 := hpR.ch hM.ch
        have hRb : (Ty.sl tU8).Rd [] w _ ([((some ⟨b15, 0, none⟩, 32, 32), hH.1), ((some ⟨bp, op, none⟩, 32, 32), p.1)].map (fun p : SlV × List UInt8 => p.2)) := Ty.Rd.unraw (hM.rowRd (en := eSl) (xs := [(some ⟨b15, 0, none⟩, 32, 32), (some ⟨bp, op, none⟩, 32, 32)]) (by (repeat constructor)) (by simp)) (fun p hp => by
          simp only [List.mem_cons, List.not_mem_nil, or_false] at hp
          rcases hp with rfl | rfl
          · exact hhR
          · exact hpR2)
        repeat (first | refine gw ?_ | (refine ks ?_; intro w hM))
        refine ca (bytes_any 1 _ _ w hRb (by simp [hp32, hh32])) ?_
        rintro v61 w2 ⟨hO, hc2⟩
        have hM := hM.got hc2 hO
        simp only [List.map_cons, List.map_nil, List.flatten_cons, List.flatten_nil, List.append_nil] at hM
        obtain ⟨u61, rfl⟩ : ∃ u : SlV, v61 = slv u := by obtain ⟨A, c, rfl, _⟩ := hO.form; exact ⟨(A, _, c), rfl⟩
        have hM := hM.rowFrd (by simp [hp32, hh32])
        have hM := (hM.pick (a := .many tU8 B ps) (by (repeat constructor))).manyPut
        refine kpu u61 hM (fun _ v63 w hM => ?_) (hb := by simp; omega) (h63 := by simp; omega)
        obtain ⟨u63, rfl⟩ : ∃ u : SlV, v63 = slv u := by obtain ⟨A, c, rfl, _⟩ := (hM.row0 (v := v63) (by (repeat constructor))).form; exact ⟨(A, _, c), rfl⟩
        repeat (first | refine gw ?_ | (refine ks ?_; intro w hM))
        refine x_goes (k - 1) rfl (by omega) ⟨j + 1, u63, ps ++ [(u61, 1 :: (hH.1 ++ p.1))], fun k => B k ∨ (slv u61).ownBlock = some k, exj rfl, by omega, by simp [hpl], ?_, ?_, ?_⟩
        · rw [hup, List.map_append]
          rfl
        · rw [List.map_append]
          exact hmem
        · rw [List.map_append]
          exact hM.sub (by (repeat constructor))
    · repeat (first | refine gw ?_ | (refine ks ?_; intro w hM))
      have hj' : j = sd.length := by omega
      subst hj'
      rw [List.take_length] at hps
      have hM := (hM.sub (M := [.row eSl 28 (slv uv) (ps.map (·.1)), .many tU8 B ps]) (by (repeat constructor))).manyFrd (by omega)
      rw [hps] at hM
      exact out2 rfl ⟨_, _, rfl, hM⟩
end Go.Proofs.YtkdbinchlpdkmaaDoor
set_option linter.unusedVariables false
set_option linter.unusedSimpArgs false
namespace Go.Proofs.YtkdbinchlpdkmaaDoor
open Go Go.RowKit Go.Proofs.E
attribute [local irreducible] Go.wpList Go.Code.wp Go.Proofs.E.exec Go.Proofs.E.wpLexG
theorem fold_len (path : List Hs) : ∀ (xs : List (Bool × Nat)) (l : List (List UInt8)), (xs.foldl (stepW path) l).length = l.length + xs.length
  | [], l => rfl
  | x :: xs, l => by rw [List.foldl_cons, fold_len path xs, stepW_len, List.length_cons]; omega
theorem upsT_len (path : List Hs) (leaf : List UInt8) (sd : List Bool) : (upsT path leaf sd).length = sd.length + 1 := by
  unfold upsT
  rw [fold_len]
  simp
  omega
theorem fold_mem {path : List Hs} {m : Nat} (hm : 65 ≤ m) : ∀ (xs : List (Bool × Nat)) (l : List (List UInt8)), (∀ y ∈ l, y.length ≤ m) → ∀ y ∈ xs.foldl (stepW path) l, y.length ≤ m
  | [], l, h => h
  | x :: xs, l, h => fold_mem hm xs _ (stepW_mem hm h)
theorem upsT_mem {path : List Hs} {leaf : List UInt8} {sd : List Bool} {m : Nat} (hm : 65 ≤ m) (hl : leaf.length + 1 ≤ m) : ∀ y ∈ upsT path leaf sd, y.length ≤ m :=
  fold_mem hm _ _ (fun y hy => by simp at hy; subst hy; simpa using hl)
end Go.Proofs.YtkdbinchlpdkmaaDoor
set_option linter.unusedVariables false
set_option linter.unusedSimpArgs false
namespace Go.Proofs.YtkdbinchlpdkmaaDoor
open Go Go.RowKit Go.Proofs.E
attribute [local irreducible] Go.wpList Go.Code.wp Go.Proofs.E.exec Go.Proofs.E.wpLexG
end Go.Proofs.YtkdbinchlpdkmaaDoor
set_option linter.unusedVariables false
set_option linter.unusedSimpArgs false
namespace Go.Proofs.YtkdbinchlpdkmaaDoor
open Go Go.RowKit Go.Proofs.E
attribute [local irreducible] Go.wpList Go.Code.wp Go.Proofs.E.exec Go.Proofs.E.wpLexG
theorem upsZ_mem {n i : Int} {leaf : List UInt8} {path : List Hs} (hl : leaf.length ≤ 1000000000) : ∀ x ∈ upsZ n i leaf path, x.length ≤ 1099511627776 := by
  intro x hx
  unfold upsZ at hx
  split at hx
  · have := upsT_mem (path := path) (leaf := leaf) (m := 1000000065) (by omega) (by omega) x hx
    omega
  · simp at hx
theorem upsZ_len {n i : Int} {leaf : List UInt8} {path : List Hs} : (upsZ n i leaf path).length ≤ path.length + 1 := by
  unfold upsZ
  split
  · rename_i h
    rw [upsT_len, sidesB_len, (climbZ_ok.1 h).2]
    exact Nat.le_refl _
  · simp
def leavesZ (n i : Int) (a : List UInt8) (p : List Hs) (b : List UInt8) (q : List Hs) : Option (List UInt8 × List UInt8) :=
  if (climbZ n i zeroH p).2 = true ∧ (climbZ n i zeroH q).2 = true then firstL (pairsL (upsZ n i a p) (upsZ n i b q)) else none
set_option maxHeartbeats 8000000 in
theorem cleaves_any (n i : Int) (va vp vb vq : Value) (a b : List UInt8) (p q : List Hs) (w0 : World) (hK : Laid w0) (hRa : tU8.Rd [] w0 va a) (hRp : (Ty.enc eH).Rd [] w0 vp p) (hRb : tU8.Rd [] w0 vb b) (hRq : (Ty.enc eH).Rd [] w0 vq q)
    (hla : a.length ≤ 1000000000) (hlb : b.length ≤ 1000000000) (hlp : p.length ≤ 1000000000) :
    Calls Tryd.prog 50 #[.int .i64 n, .int .i64 i, va, vp, vb, vq] w0 (Ret fun u w' => ∃ v1 v2, u = .tuple #[v1, v2, .bool (leavesZ n i a p b q).isSome] ∧
      Mem [] w0 w' [.row eU8 5 v1 (fstL (leavesZ n i a p b q)), .row eU8 5 v2 (sndL (leavesZ n i a p b q))]) := by
  have hM := Mem.start w0
  refine enter [.int .i64 n, .int .i64 i, va, vp, vb, vq, undef, undef, undef, undef, undef, undef, undef, undef, undef, undef, undef, undef, undef, undef, undef, undef, undef, undef, undef, undef, undef, undef, undef, undef, undef, undef, undef, undef, undef, undef, undef, undef, undef, undef, undef, undef, undef, undef, undef, undef, undef] Tryd.func50 rfl rfl ?_
  repeat (first | refine gw ?_ | (refine ks ?_; intro w hM))
  refine ca ((fun n i vl vp leaf path w h1 h2 h3 h4 => cups_any n i vl vp leaf path w h1 h2 h3 h4) n i va vp a p w0 hK hRa hRp hla) ?_
  rintro _ w1 ⟨v1, B1, rfl, hN1⟩
  have hM := hM.join hN1 (by simp [As.plain])
  repeat (first | refine gw ?_ | (refine ks ?_; intro w hM))
  refine ca ((fun n i vl vp leaf path w h1 h2 h3 h4 => cups_any n i vl vp leaf path w h1 h2 h3 h4) n i vb vq b q w1 (hK.ch hM.ch (by simp)) (hRb.ch hM.ch) (hRq.ch hM.ch) hlb) ?_
  rintro _ w2 ⟨v2, B2, rfl, hN2⟩
  have hM := hM.join hN2 (by simp [As.plain])
  simp only [List.cons_append, List.nil_append] at hM
  unfold leavesZ
  have hm1 := upsZ_mem (n := n) (i := i) (path := p) hla
  have hm2 := upsZ_mem (n := n) (i := i) (path := q) hlb
  have hml := upsZ_len (n := n) (i := i) (leaf := a) (path := p)
  generalize upsZ n i a p = xs at hM hm1 hml ⊢
  generalize upsZ n i b q = ys at hM hm2 ⊢
  generalize (climbZ n i zeroH p).2 = c1
  generalize (climbZ n i zeroH q).2 = c2
  repeat (first | refine gw ?_ | (refine ks ?_; intro w hM))
  have none_ : ∀ {fn : Func} {l : List Value}, fn.results = #[.tmp 12, .tmp 13, .tmp 14] → ev l (.tmp 12) = .slice none 0 0 → ev l (.tmp 13) = .slice none 0 0 → ev l (.tmp 14) = .bool false → bodyPost Tryd.prog fn (Ret fun u w' => ∃ v1 v2, u = .tuple #[v1, v2, .bool (none : Option (List UInt8 × List UInt8)).isSome] ∧
      Mem [] w0 w' [.row eU8 5 v1 (fstL none), .row eU8 5 v2 (sndL none)]) .ret (fr l) w2 := fun hr h1 h2 h3 => out3 hr ⟨_, _, by rw [h1, h2, h3]; rfl, (hM.nil.nilRow eU8 5).nilRow eU8 5⟩
  cases c1 with
  | false =>
    rw [if_neg (by simp)]
    repeat (first | refine gw ?_ | (refine ks ?_; intro w hM))
    refine c_condb rfl (fun _ => ?_) (fun h => by cases h)
    repeat (first | refine gw ?_ | (refine ks ?_; intro w hM))
    exact none_ rfl rfl rfl rfl
  | true =>
    cases c2 with
    | false =>
      rw [if_neg (by simp)]
      repeat (first | refine gw ?_ | (refine ks ?_; intro w hM))
      refine c_condb rfl (fun _ => ?_) (fun h => by cases h)
      repeat (first | refine gw ?_ | (refine ks ?_; intro w hM))
      exact none_ rfl rfl rfl rfl
    | true =>
      rw [if_pos ⟨rfl, rfl⟩]
      repeat (first | refine gw ?_ | (refine ks ?_; intro w hM))
      refine c_condb rfl (fun h => by cases h) (fun _ => ?_)
      repeat (first | refine gw ?_ | (refine ks ?_; intro w hM))
      refine ca ((fun va vb xs ys w h1 => first_any va vb xs ys w h1) v1 v2 xs ys w2 (hK.ch hM.ch (by simp)) (hM.frdRd (xs := xs) (by (repeat constructor))) (hM.frdRd (xs := ys) (by (repeat constructor))) hm1 hm2 (by omega)) ?_
      rintro _ w3 ⟨u1, u2, rfl, hN3⟩
      have hM := hM.nil.join hN3 (by simp [As.plain])
      repeat (first | refine gw ?_ | (refine ks ?_; intro w hM))
      exact out3 rfl ⟨_, _, rfl, hM⟩
end Go.Proofs.YtkdbinchlpdkmaaDoor
set_option linter.unusedVariables false
set_option linter.unusedSimpArgs false
set_option linter.unusedVariables false
set_option linter.unusedSimpArgs false
namespace Go.Proofs.YtkdbinchlpdkmaaDoor
open Go Go.RowKit Go.Proofs.E
attribute [local irreducible] Go.wpList Go.Code.wp Go.Proofs.E.exec Go.Proofs.E.wpLexG
def forkX (k : Hs) (s : Int × Hs) (h : Hs) : List UInt8 := 4 :: UInt8.ofNat s.1.toNat :: (if bitZ k s.1 = 0 then h.1 ++ s.2.1 else s.2.1 ++ h.1)
theorem stepUp_sha (k : Hs) (s : Int × Hs) (h : Hs) : stepUp k s h = shaH (forkX k s h) := by
  unfold stepUp forkX forkH
  split <;> rfl
def downL (k : Hs) : List (Int × Hs) → List (List UInt8) → List (List UInt8)
  | [], l => l
  | s :: r, l => downL k r (l ++ [forkX k s (shaH (l.getLastD []))])
def downsP (k : Hs) (st : List (Int × Hs)) (lf : Bool) (pk pv : Hs) : List (List UInt8) :=
  if (climbP k st lf pk pv).isSome = true then (if lf = true then downL k st.reverse [3 :: (pk.1 ++ pv.1)] else [[5]]) else []
theorem forkX_len (k : Hs) (s : Int × Hs) (h : Hs) : (forkX k s h).length = 66 := by
  unfold forkX
  split <;> simp
theorem goodSt_len : ∀ {st : List (Int × Hs)} {last : Int}, goodSt last st = true → last ≤ 255 → (st.length : Int) ≤ 255 - last
  | [], last, _, hl => by simp; omega
  | x :: r, last, h, hl => by
    simp only [goodSt, Bool.and_eq_true, decide_eq_true_eq] at h
    have := goodSt_len h.2 h.1.2
    simp
    omega
theorem both_set (k : Hs) (xi : Int) (xs h : Hs) (uS uH : SlV) : ∃ (ua ub : SlV) (xa xb : List UInt8), [slv uS, slv uS].set (0 + ((bitZ k xi : Nat) : Int).toNat * 1) (slv uH) = [slv ua, slv ub] ∧
    (∀ w, tU8.Rd [] w (slv uH) h.1 → tU8.Rd [] w (slv uS) xs.1 → tU8.Rd [] w (slv ua) xa ∧ tU8.Rd [] w (slv ub) xb) ∧ forkX k (xi, xs) h = 4 :: UInt8.ofNat xi.toNat :: (xa ++ xb) ∧ xa.length = 32 ∧ xb.length = 32 := by
  unfold forkX
  rcases bit_two k xi with h0 | h0
  · rw [h0]
    exact ⟨uH, uS, h.1, xs.1, rfl, fun w a b => ⟨a, b⟩, rfl, by simp, by simp⟩
  · rw [h0]
    exact ⟨uS, uH, xs.1, h.1, rfl, fun w a b => ⟨b, a⟩, rfl, by simp, by simp⟩
set_option maxHeartbeats 64000000 in
theorem downs_any (k : Hs) (sp : Value) (lf : Bool) (pk pv : Hs) (st : List (Int × Hs)) (w0 : World) (hK : Laid w0) (hR : (Ty.enc eSt).Rd [] w0 sp st) :
    Calls Tryd.prog 22 #[hv k.1, .agg (pC sp lf pk pv).toArray] w0 (Ret fun u w' => ∃ v B, u = .tuple #[v, .bool (climbP k st lf pk pv).isSome] ∧ Mem [] w0 w' [.frd (Ty.sl tU8) B v (downsP k st lf pk pv)]) := by
  have hM := Mem.start w0
  have hle := hR.le
  obtain ⟨A, c, rfl⟩ := hR.form
  refine enterM [hv k.1, .agg (pC (.slice A st.length c) lf pk pv).toArray, undef, undef, undef, undef, undef, undef, undef, undef, undef, undef, undef, undef, undef, undef, undef, undef, undef, undef, undef, undef, undef, undef, undef, undef, undef, undef, undef, undef, undef, undef, undef, undef, undef, undef, undef, undef, undef, undef, undef, undef, undef, undef, undef, undef, undef, undef, undef, undef, undef, undef, undef, undef, undef, undef, undef, undef, undef, undef, undef, undef, undef, undef, undef] Tryd.func22 rfl rfl ?_
  repeat (first | refine gw ?_ | (refine ks ?_; intro w hM))
  refine kbx hM (fun w b2 hM => ?_)
  refine kbx hM (fun w b3 hM => ?_)
  have hM : Mem [] w0 w [.cell b3 (pC (.slice A st.length c) lf pk pv) 49, .cell b2 (k.1.map u8v) 30] := hM
  repeat (first | refine gh ?_ | (refine ks ?_; intro w hM))
  refine kca hM (mclimb_any k (.slice A st.length c) lf pk pv st w (hK.ch hM.ch (by simp)) (hR.ch hM.ch)) (X := .tuple #[hv ((climbP k st lf pk pv).getD zeroH).1, .bool (climbP k st lf pk pv).isSome]) (fun w hM => ?_)
  unfold downsP
  obtain ⟨cz, hcz⟩ : ∃ cz, climbP k st lf pk pv = cz := ⟨_, rfl⟩
  rw [hcz]
  repeat (first | refine gh ?_ | (refine ks ?_; intro w hM))
  refine kal hM (fun w b6 hM => ?_)
  refine kstw (vs := (cz.getD zeroH).1.map u8v) hM (fun w hM => ?_)
  repeat (first | refine gh ?_ | (refine ks ?_; intro w hM))
  cases cz with
  | none =>
    refine c_condb rfl (fun _ => ?_) (fun h => by cases h)
    repeat (first | refine gh ?_ | (refine ks ?_; intro w hM))
    exact post0 (out2 rfl ⟨_, _, rfl, (hM.nil.frd0 (Ty.sl tU8) none 0)⟩)
  | some hh =>
    refine c_condb rfl (fun h => by cases h) (fun _ => ?_)
    rw [if_pos (Option.isSome_some)]
    have hg : goodP st lf pk pv = true := by
      unfold climbP at hcz
      split at hcz
      · assumption
      · cases hcz
    have hgm := goodSt_mem (show goodSt (-1) st = true by unfold goodP at hg; simp only [Bool.and_eq_true] at hg; exact hg.1) (by omega)
    have hM := hM.sub (M := [.cell b3 (pC (.slice A st.length c) lf pk pv) 49, .cell b2 (k.1.map u8v) 30]) (by (repeat constructor))
    repeat (first | refine gh ?_ | (refine ks ?_; intro w hM))
    cases lf with
    | false =>
      refine c_condb rfl (fun _ => ?_) (fun h => by cases h)
      repeat (first | refine gh ?_ | (refine ks ?_; intro w hM))
      refine ca (bytes_any 5 _ [] w (Ty.Rd.nil _ _ _ _ _) (by simp)) ?_
      rintro v24 w2 ⟨hO, hc2⟩
      have hM := hM.got hc2 hO
      obtain ⟨u24, rfl⟩ : ∃ u : SlV, v24 = slv u := by obtain ⟨A, c, rfl, _⟩ := hO.form; exact ⟨(A, _, c), rfl⟩
      have hM := (hM.rowFrd (by simp)).sub (M := [.frd tU8 (fun k => (slv u24).ownBlock = some k) (slv u24) [5]]) (by (repeat constructor))
      have hM := (hM.many0 tU8).manyPut
      refine kbs (en := eSl) (vs := [slv u24]) [u24] hM (fun w b25 hM => ?_)
      have hM := hM.manyFrd (ps := [(u24, [5])]) (by simp)
      repeat (first | refine gh ?_ | (refine ks ?_; intro w hM))
      exact post0 (out2 rfl ⟨_, _, rfl, hM⟩)
    | true =>
      refine c_condb rfl (fun h => by cases h) (fun _ => ?_)
      rw [if_pos (rfl : true = true)]
      repeat (first | refine gh ?_ | (refine ks ?_; intro w hM))
      refine c_ordY ([], []) [] (by kernel_rfl) (by kernel_rfl) (by kernel_rfl) (fun w hc hs => ?_)
      have hM := hM.call hc
      (first | refine yn 0 rfl ?_ | refine ynt 0 rfl ?_ | refine ynff 0 rfl ?_)
      refine ynp 1 rfl (by kernel_rfl) (by kernel_rfl) (fun _ => r_cut_arr0 rfl) rfl ?_
      (first | refine yn 2 rfl ?_ | refine ynt 2 rfl ?_ | refine ynff 2 rfl ?_)
      refine ynp 3 rfl (by kernel_rfl) (by kernel_rfl) (fun _ => r_cut_arr0 rfl) rfl ?_
      refine wy_cont (X := Nat × SlV × Nat × Nat) (fun x N w => N ≤ x.2.2.2 ∧ Mem [] w0 w [.cell x.2.2.2 [.slice none 0 0] 114, .row eSl 28 (.slice (some ⟨x.2.2.1, 0, none⟩) 1 1) [x.2.1], .frd tU8 (fun k => (slv x.2.1).ownBlock = some k) (slv x.2.1) (3 :: (pk.1 ++ pv.1)), .cell b3 (pC (.slice A st.length c) true pk pv) 49, .cell b2 (k.1.map u8v) 30])
        (fun x l => (((l.set 30 (.slice (some ⟨x.1, 0, none⟩) 2 2)).set 31 (slv x.2.1)).set 32 (.slice (some ⟨x.2.2.1, 0, none⟩) 1 1)).set 8 (.pointer (some ⟨x.2.2.2, 0, none⟩))) #[true, true, true, true, true, true, true, true, false] (fuel := 1) (fun hk => ?_) ?_
      · skip
        refine yk2 4 7 hM (by kernel_rfl) rfl rfl (fun w h0 hM => ?_) (fun w h0 hM => ?_)
        · skip
          refine kbsC (en := eSl) (vs := [slv (some ⟨b3, 2, none⟩, 32, 32), slv (some ⟨b3, 34, none⟩, 32, 32)]) [(some ⟨b3, 2, none⟩, 32, 32), (some ⟨b3, 34, none⟩, 32, 32)] hM (fun w b60 hc hM => ?_)
          refine x_wy (.inl (hc.gy h0)) rfl ?_
          refine yk2 5 7 hM (by kernel_rfl) rfl rfl (fun w h0 hM => ?_) (fun w h0 hM => ?_)
          · skip
            have hRb := hM.rows8 (ps := [((some ⟨b3, 2, none⟩, 32, 32), pk.1), ((some ⟨b3, 34, none⟩, 32, 32), pv.1)]) (by (repeat constructor)) (rof3 (hM.cell8 (b := b3) (o := 2) (by (repeat constructor)) (hs_takeA _ _) pk.2) (hM.cell8 (b := b3) (o := 34) (by (repeat constructor)) (by exact hs_takeB _ _) pv.2))
            refine ca (bytes_any 3 _ _ w hRb (by simp)) ?_
            rintro v61 w2 ⟨hO, hc⟩
            have hM := hM.got hc hO
            obtain ⟨u61, rfl⟩ : ∃ u : SlV, v61 = slv u := by obtain ⟨A, c, rfl, _⟩ := hO.form; exact ⟨(A, _, c), rfl⟩
            have hM := hM.rowFrd (by simp)
            rw [show 3 :: (List.map (fun p : SlV × List UInt8 => p.2) [((some ⟨b3, 2, none⟩, 32, 32), pk.1), ((some ⟨b3, 34, none⟩, 32, 32), pv.1)]).flatten = 3 :: (pk.1 ++ pv.1) by simp] at hM
            refine x_wy (.inl (hc.gy h0)) rfl ?_
            refine yk2 6 7 hM (by kernel_rfl) rfl rfl (fun w h0 hM => ?_) (fun w h0 hM => ?_)
            · skip
              refine kbsC (en := eSl) (vs := [slv u61]) [u61] hM (fun w b65 hc hM => ?_)
              refine x_wy (.inl (hc.gy h0)) rfl ?_
              refine yk1 7 hM (by kernel_rfl) rfl (fun w h0 hM => ?_)
              refine kalN hM (fun w b8 hb8 hc hM => ?_)
              have hb8 := Nat.le_trans h0 hb8
              refine x_wy (.inl (hc.gy h0)) rfl ?_
              exact hk (b60, u61, b65, b8) _ _ _ (by kernel_rfl) rfl ⟨hb8, hM.sub (by (repeat constructor))⟩
            · skip
              refine kalN hM (fun w b8 hb8 hc hM => ?_)
              have hb8 := Nat.le_trans h0 hb8
              refine x_wy (.inl (hc.gy h0)) rfl ?_
              refine yk1 6 hM (by kernel_rfl) rfl (fun w h0 hM => ?_)
              refine kbsC (en := eSl) (vs := [slv u61]) [u61] hM (fun w b65 hc hM => ?_)
              refine x_wy (.inl (hc.gy h0)) rfl ?_
              exact hk (b60, u61, b65, b8) _ _ _ (by kernel_rfl) rfl ⟨hb8, hM.sub (by (repeat constructor))⟩
          · skip
            refine kalN hM (fun w b8 hb8 hc hM => ?_)
            have hb8 := Nat.le_trans h0 hb8
            refine x_wy (.inl (hc.gy h0)) rfl ?_
            refine yk1 5 hM (by kernel_rfl) rfl (fun w h0 hM => ?_)
            have hRb := hM.rows8 (ps := [((some ⟨b3, 2, none⟩, 32, 32), pk.1), ((some ⟨b3, 34, none⟩, 32, 32), pv.1)]) (by (repeat constructor)) (rof3 (hM.cell8 (b := b3) (o := 2) (by (repeat constructor)) (hs_takeA _ _) pk.2) (hM.cell8 (b := b3) (o := 34) (by (repeat constructor)) (by exact hs_takeB _ _) pv.2))
            refine ca (bytes_any 3 _ _ w hRb (by simp)) ?_
            rintro v61 w2 ⟨hO, hc⟩
            have hM := hM.got hc hO
            obtain ⟨u61, rfl⟩ : ∃ u : SlV, v61 = slv u := by obtain ⟨A, c, rfl, _⟩ := hO.form; exact ⟨(A, _, c), rfl⟩
            have hM := hM.rowFrd (by simp)
            rw [show 3 :: (List.map (fun p : SlV × List UInt8 => p.2) [((some ⟨b3, 2, none⟩, 32, 32), pk.1), ((some ⟨b3, 34, none⟩, 32, 32), pv.1)]).flatten = 3 :: (pk.1 ++ pv.1) by simp] at hM
            refine x_wy (.inl (hc.gy h0)) rfl ?_
            refine yk1 6 hM (by kernel_rfl) rfl (fun w h0 hM => ?_)
            refine kbsC (en := eSl) (vs := [slv u61]) [u61] hM (fun w b65 hc hM => ?_)
            refine x_wy (.inl (hc.gy h0)) rfl ?_
            exact hk (b60, u61, b65, b8) _ _ _ (by kernel_rfl) rfl ⟨hb8, hM.sub (by (repeat constructor))⟩
        · skip
          refine kalN hM (fun w b8 hb8 hc hM => ?_)
          have hb8 := Nat.le_trans h0 hb8
          refine x_wy (.inl (hc.gy h0)) rfl ?_
          refine yk1 4 hM (by kernel_rfl) rfl (fun w h0 hM => ?_)
          refine kbsC (en := eSl) (vs := [slv (some ⟨b3, 2, none⟩, 32, 32), slv (some ⟨b3, 34, none⟩, 32, 32)]) [(some ⟨b3, 2, none⟩, 32, 32), (some ⟨b3, 34, none⟩, 32, 32)] hM (fun w b60 hc hM => ?_)
          refine x_wy (.inl (hc.gy h0)) rfl ?_
          refine yk1 5 hM (by kernel_rfl) rfl (fun w h0 hM => ?_)
          have hRb := hM.rows8 (ps := [((some ⟨b3, 2, none⟩, 32, 32), pk.1), ((some ⟨b3, 34, none⟩, 32, 32), pv.1)]) (by (repeat constructor)) (rof3 (hM.cell8 (b := b3) (o := 2) (by (repeat constructor)) (hs_takeA _ _) pk.2) (hM.cell8 (b := b3) (o := 34) (by (repeat constructor)) (by exact hs_takeB _ _) pv.2))
          refine ca (bytes_any 3 _ _ w hRb (by simp)) ?_
          rintro v61 w2 ⟨hO, hc⟩
          have hM := hM.got hc hO
          obtain ⟨u61, rfl⟩ : ∃ u : SlV, v61 = slv u := by obtain ⟨A, c, rfl, _⟩ := hO.form; exact ⟨(A, _, c), rfl⟩
          have hM := hM.rowFrd (by simp)
          rw [show 3 :: (List.map (fun p : SlV × List UInt8 => p.2) [((some ⟨b3, 2, none⟩, 32, 32), pk.1), ((some ⟨b3, 34, none⟩, 32, 32), pv.1)]).flatten = 3 :: (pk.1 ++ pv.1) by simp] at hM
          refine x_wy (.inl (hc.gy h0)) rfl ?_
          refine yk1 6 hM (by kernel_rfl) rfl (fun w h0 hM => ?_)
          refine kbsC (en := eSl) (vs := [slv u61]) [u61] hM (fun w b65 hc hM => ?_)
          refine x_wy (.inl (hc.gy h0)) rfl ?_
          exact hk (b60, u61, b65, b8) _ _ _ (by kernel_rfl) rfl ⟨hb8, hM.sub (by (repeat constructor))⟩
      clear hM
      rintro ⟨b60, u61, b65, b8⟩ w ⟨hb8, hM⟩
      simp only at hb8 hM
      refine wy_nf ?_
      refine yk1 8 hM (by kernel_rfl) rfl (fun w h0 hM => ?_)
      refine kstC (v := slv (some ⟨b65, 0, none⟩, 1, 1)) hM (fun w hc hM => ?_)
      refine x_wy (.inl (hc.bwn h0 (.inl hb8))) rfl ?_
      refine wy_done (by kernel_rfl) (fun w hc => ?_)
      have hM := hM.call hc
      have hM : Mem [] w0 w [.cell b8 [slv (some ⟨b65, 0, none⟩, 1, 1)] 114, .row eSl 28 (slv (some ⟨b65, 0, none⟩, 1, 1)) [u61], .frd tU8 (fun k => (slv u61).ownBlock = some k) (slv u61) (3 :: (pk.1 ++ pv.1)), .cell b3 (pC (.slice A st.length c) true pk pv) 49, .cell b2 (k.1.map u8v) 30] := hM
      have hM := ((hM.pick (a := .frd tU8 _ _ _) (by (repeat constructor))).many0 tU8).manyPut
      obtain ⟨B0, hM⟩ : ∃ B0, Mem [] w0 w [.cell b8 [slv (some ⟨b65, 0, none⟩, 1, 1)] 114, .row eSl 28 (slv (some ⟨b65, 0, none⟩, 1, 1)) ([(u61, 3 :: (pk.1 ++ pv.1))].map (fun p : SlV × List UInt8 => p.1)), .many tU8 B0 [(u61, 3 :: (pk.1 ++ pv.1))], .cell b3 (pC (.slice A st.length c) true pk pv) 49, .cell b2 (k.1.map u8v) 30] := ⟨_, hM.sub (by (repeat constructor))⟩
      have hsl := goodSt_len (show goodSt (-1) st = true by unfold goodP at hg; simp only [Bool.and_eq_true] at hg; exact hg.1) (by omega)
      have hl0 : ∀ x ∈ [(u61, 3 :: (pk.1 ++ pv.1))].map (fun p : SlV × List UInt8 => p.2), x.length ≤ 66 := by
        intro x hx
        simp at hx
        subst hx
        simp
      have hd0 : [3 :: (pk.1 ++ pv.1)] = [(u61, 3 :: (pk.1 ++ pv.1))].map (fun p : SlV × List UInt8 => p.2) := rfl
      rw [hd0]
      have hp0 : [(u61, 3 :: (pk.1 ++ pv.1))].length = 1 := rfl
      clear hd0
      generalize [(u61, 3 :: (pk.1 ++ pv.1))] = ps0 at hM hl0 hp0 ⊢
      generalize ((some ⟨b65, 0, none⟩, 1, 1) : SlV) = uw0 at hM
      repeat (first | refine gh ?_ | (refine ks ?_; intro w hM))
      refine ca (back_any (.slice A st.length c) w rfl) ?_
      rintro _ w1 ⟨b9, rfl, hN⟩
      have hM := (hM.join hN (by simp [As.plain])).perm List.perm_append_comm
      repeat (first | refine gh ?_ | (refine ks ?_; intro w hM))
      
      refine c_rangeM2 (e1 := fun x : (Int × Hs) × Nat => .int .i64 (x.2 : Int)) (e2 := fun x : (Int × Hs) × Nat => .agg (eSt.f x.1).toArray) hM rfl (enters_of Tryd.func115 (by kernel_rfl) rfl) (back_seq b9 hR)
        (fun pre La => ∃ (uw : SlV) (ps : List (SlV × List UInt8)) (B : Nat → Prop), La = [.cell b8 [slv uw] 114, .row eSl 28 (slv uw) (ps.map (fun p : SlV × List UInt8 => p.1)), .many tU8 B ps, .cell b3 (pC (.slice A st.length c) true pk pv) 49, .cell b2 (k.1.map u8v) 30] ∧ ps.length = pre.length + 1 ∧ (∀ x ∈ ps.map (fun p : SlV × List UInt8 => p.2), x.length ≤ 66) ∧ downL k st.reverse (ps0.map (fun p : SlV × List UInt8 => p.2)) = downL k (st.reverse.drop pre.length) (ps.map (fun p : SlV × List UInt8 => p.2))) ⟨uw0, ps0, B0, rfl, hp0, hl0, rfl⟩
        (fun cd pre La => False)
        (fun pre x l La => ∃ (uw : SlV) (ps : List (SlV × List UInt8)) (B : Nat → Prop) (b10 : Nat), (∃ jj : Nat → Value, l = [jj 0, jj 1, .pointer (some ⟨b2, 0, none⟩), .pointer (some ⟨b3, 0, none⟩), jj 4, jj 5, jj 6, jj 7, .pointer (some ⟨b8, 0, none⟩), jj 9, .pointer (some ⟨b10, 0, none⟩), jj 11, jj 12, jj 13, jj 14, jj 15, jj 16, jj 17, jj 18, jj 19, jj 20, jj 21, jj 22, jj 23, jj 24, jj 25, jj 26, jj 27, jj 28, jj 29, jj 30, jj 31, jj 32, jj 33, jj 34, jj 35, jj 36, jj 37, jj 38, jj 39, jj 40, jj 41, jj 42, jj 43, jj 44, jj 45, jj 46, jj 47, jj 48, jj 49, jj 50, jj 51, jj 52, jj 53, jj 54, jj 55, jj 56, jj 57, jj 58, jj 59, jj 60, jj 61, jj 62, jj 63, jj 64]) ∧ La = [.cell b10 (eSt.f x.1) 52, .cell b8 [slv uw] 114, .row eSl 28 (slv uw) (ps.map (fun p : SlV × List UInt8 => p.1)), .many tU8 B ps, .cell b3 (pC (.slice A st.length c) true pk pv) 49, .cell b2 (k.1.map u8v) 30] ∧ ps.length = pre.length + 1 ∧ (∀ x ∈ ps.map (fun p : SlV × List UInt8 => p.2), x.length ≤ 66) ∧ downL k st.reverse (ps0.map (fun p : SlV × List UInt8 => p.2)) = downL k (st.reverse.drop pre.length) (ps.map (fun p : SlV × List UInt8 => p.2)))
        ?_ ?_ ?_ ?_
      · rintro r pre x w La X K hp ⟨uw, ps, B, rfl, h1, h2, h3⟩ hM hK
        simp only [List.cons_append, List.nil_append] at hM
        refine ci_region (by (repeat (first | exact noOut_round | exact noOut_fls | exact noOut_M | apply noOut_then | apply noOut_block))) rfl ?_
        repeat (first | refine gh ?_ | (refine ks ?_; intro w hM))
        refine kal hM (fun w b10 hM => ?_)
        refine kstw (vs := eSt.f x.1) hM (fun w hM => ?_) (h1 := eSt.h1 x.1)
        repeat (first | refine gh ?_ | (refine ks ?_; intro w hM))
        exact hK _ w _ ⟨uw, ps, B, b10, exj rfl, rfl, h1, h2, h3⟩ hM
      · rintro r pre x l w La X hp ⟨uw, ps, B, b10, ⟨jj, rfl⟩, rfl, hpl, hpb, hf⟩ hM
        have hprl : pre.length < st.length := by
          have := hp.length_le
          simp at this
          omega
        obtain ⟨hd, hxm⟩ := zr_pre hp
        rw [hd, downL] at hf
        have hx := hgm x.1 hxm
        obtain ⟨⟨xi, xs⟩, xn⟩ := x
        simp only at hf hx hM ⊢
        simp only [List.cons_append, List.nil_append] at hM
        obtain ⟨I, rfl⟩ := Int.eq_ofNat_of_zero_le hx.1
        have hu : u8v (UInt8.ofNat I) = .int .u8 (I : Int) := by
          unfold u8v
          rw [UInt8.toNat_ofNat', Nat.mod_eq_of_lt (by omega)]
        refine wpIn_block ?_
        repeat (first | ((with_reducible apply is_ld); first | refine kld hM ?_ | refine kldw hM ?_ | refine kle hM ?_ | refine klew hM ?_ | refine kldh hM ?_ | refine kld hM ?_ (hv := by first | exact hs_get _ _ _ | exact hs_get1 _ _ _ _)) | ((with_reducible apply is_sto); first | (refine kst hM ?_; intro w hM) | (refine kstw hM ?_; intro w hM)) | ((with_reducible apply is_st); refine su ?_) | ((with_reducible apply is_gd); first | refine gt ?_ | refine gf ?_ | refine gu ?_) | ((with_reducible apply is_en); refine en ?_) | (with_reducible apply c_region) | refine ws ?_ | refine x_block_other (by decide) ?_ | (refine ci_region (by (repeat (first | exact noOut_round | exact noOut_fls | exact noOut_M | apply noOut_then | apply noOut_block))) rfl ?_) )
        have hRw : (Ty.sl tU8).Rd [] w (slv uw) (ps.map (fun p : SlV × List UInt8 => p.2)) := hM.rows8 (by (repeat constructor)) (hM.manyRd (by (repeat constructor)))
        refine kca hM (top_any (slv uw) _ w (hK.ch hM.ch (by simp)) hRw (fun h => by have := congrArg List.length h; simp at this; subst this; simp at hpl) (fun x hx => by have := hpb x hx; omega)) (X := hv (shaH ((ps.map (fun p : SlV × List UInt8 => p.2)).getLastD [])).1) (fun w hM => ?_)
        refine kal hM (fun w b11 hM => ?_)
        refine kstw (vs := (shaH ((ps.map (fun p : SlV × List UInt8 => p.2)).getLastD [])).1.map u8v) hM (fun w hM => ?_)
        generalize shaH ((ps.map (fun p : SlV × List UInt8 => p.2)).getLastD []) = hH at hM hf
        repeat (first | ((with_reducible apply is_ld); first | refine kld hM ?_ | refine kldw hM ?_ | refine kle hM ?_ | refine klew hM ?_ | refine kldh hM ?_ | refine kld hM ?_ (hv := by first | exact hs_get _ _ _ | exact hs_get1 _ _ _ _)) | ((with_reducible apply is_sto); first | (refine kst hM ?_; intro w hM) | (refine kstw hM ?_; intro w hM)) | ((with_reducible apply is_st); refine su ?_) | ((with_reducible apply is_gd); first | refine gt ?_ | refine gf ?_ | refine gu ?_) | ((with_reducible apply is_en); refine en ?_) | (with_reducible apply c_region) | refine ws ?_ | refine x_block_other (by decide) ?_ | (refine ci_region (by (repeat (first | exact noOut_round | exact noOut_fls | exact noOut_M | apply noOut_then | apply noOut_block))) rfl ?_) )
        refine ci_ordY ([], []) [] (by (repeat (first | exact noOut_round | exact noOut_fls | exact noOut_M | apply noOut_then | apply noOut_block))) rfl (by kernel_rfl) (by kernel_rfl) (by kernel_rfl) (fun w hc hs => ?_)
        have hM := hM.call hc
        (first | refine yn 0 rfl ?_ | refine ynt 0 rfl ?_ | refine ynff 0 rfl ?_)
        refine ynp 1 rfl (by kernel_rfl) (by kernel_rfl) (fun _ => r_cut_arr0 rfl) rfl ?_
        (first | refine yn 2 rfl ?_ | refine ynt 2 rfl ?_ | refine ynff 2 rfl ?_)
        refine ynp 3 rfl (by kernel_rfl) (by kernel_rfl) (fun _ => r_cut_arr0 rfl) rfl ?_
        refine ynp 4 rfl (by kernel_rfl) (by kernel_rfl) (fun _ => r_bld (vs := [(0, slv (some ⟨b10, 1, none⟩, 32, 32)), (1, slv (some ⟨b10, 1, none⟩, 32, 32))]) (cells := #[slv (some ⟨b10, 1, none⟩, 32, 32), slv (some ⟨b10, 1, none⟩, 32, 32)]) rfl (by kernel_rfl)) rfl ?_
        refine yk1 5 hM (by kernel_rfl) rfl (fun w h0 hM => ?_)
        refine kalN hM (fun w b12 hb12 hc hM => ?_)
        have hb12 := Nat.le_trans h0 hb12
        refine x_wy (.inl (hc.gy h0)) rfl ?_
        refine yst (n := 2) (vs := [slv (some ⟨b10, 1, none⟩, 32, 32), slv (some ⟨b10, 1, none⟩, 32, 32)]) 6 (by kernel_rfl) rfl (hM.blk (b := b12) (by (repeat constructor))) (.inl hb12) rfl rfl rfl rfl (by simp) (fun w hB hc => ?_)
        have hM := hM.cellSet hB hc
        refine wy_done (by kernel_rfl) (fun w hc => ?_)
        have hM := hM.call hc
        repeat (first | ((with_reducible apply is_ld); first | refine kld hM ?_ | refine kldw hM ?_ | refine kle hM ?_ | refine klew hM ?_ | refine kldh hM ?_ | refine kld hM ?_ (hv := by first | exact hs_get _ _ _ | exact hs_get1 _ _ _ _)) | ((with_reducible apply is_sto); first | (refine kst hM ?_; intro w hM) | (refine kstw hM ?_; intro w hM)) | ((with_reducible apply is_st); refine su ?_) | ((with_reducible apply is_gd); first | refine gt ?_ | refine gf ?_ | refine gu ?_) | ((with_reducible apply is_en); refine en ?_) | (with_reducible apply c_region) | refine ws ?_ | refine x_block_other (by decide) ?_ | (refine ci_region (by (repeat (first | exact noOut_round | exact noOut_fls | exact noOut_M | apply noOut_then | apply noOut_block))) rfl ?_) )
        have hM : Mem [] w0 w (.cell b12 [slv (some ⟨b10, 1, none⟩, 32, 32), slv (some ⟨b10, 1, none⟩, 32, 32)] 117 :: .cell b11 (hH.1.map u8v) 30 :: .cell b10 (eSt.f ((I : Int), xs)) 52 :: .cell b8 [slv uw] 114 :: .row eSl 28 (slv uw) (ps.map (fun p : SlV × List UInt8 => p.1)) :: .many tU8 B ps :: .cell b3 (pC (.slice A st.length c) true pk pv) 49 :: .cell b2 (k.1.map u8v) 30 :: X) := hM
        obtain ⟨ua, ub, xa, xb, hset, hrd, hfx, hxa, hxb⟩ := both_set k (I : Int) xs hH (some ⟨b10, 1, none⟩, 32, 32) (some ⟨b11, 0, none⟩, 32, 32)
        refine ci_ordY ([], []) [b12] (by (repeat (first | exact noOut_round | exact noOut_fls | exact noOut_M | apply noOut_then | apply noOut_block))) rfl (by kernel_rfl) (by kernel_rfl) (by kernel_rfl) (fun w hc hs => ?_)
        have hM := hM.call hc
        have hl2 := Blk.lt (hM.blk (b := b2) (by (repeat constructor)))
        have hl10 := Blk.lt (hM.blk (b := b10) (by (repeat constructor)))
        have hn2 : b2 ∉ [b12] := hM.nin (b := b12) (c := b2) (by (repeat constructor)) (by (repeat constructor))
        have hn10 : b10 ∉ [b12] := hM.nin (b := b12) (c := b10) (by (repeat constructor)) (by (repeat constructor))
        refine ynlr 0 rfl (hM.blk (b := b2) (by (repeat constructor))) (by omega) hn2 rfl (ds := k.1.map u8v) (hs_take k) (by simp) ?_
        (first | refine yn 1 rfl ?_ | refine ynt 1 rfl ?_ | refine ynff 1 rfl ?_)
        refine ynl 2 rfl (hM.blk (b := b10) (by (repeat constructor))) (by omega) hn10 rfl rfl ?_
        refine ync (vs := [hv k.1, .int .i64 (I : Int)]) (v := .int .i64 (bitZ k (I : Int) : Int)) 3 rfl (by kernel_rfl) (by kernel_rfl) rfl (fun w1 hc1 => tbit_any k (I : Int) w1) rfl (wy_nf ?_)
        refine ynp 4 rfl (by kernel_rfl) (by kernel_rfl) (fun _ => r_cut_arr0 rfl) rfl ?_
        have hlt := bitZ_lt k (I : Int)
        refine ynp 5 rfl (by kernel_rfl) (by kernel_rfl) (fun _ => r_indexAddr_arr (i := ((bitZ k (I : Int) : Nat) : Int)) rfl rfl (by omega) (by omega)) rfl ?_
        refine yk1 6 hM (by kernel_rfl) rfl (fun w h0 hM => ?_)
        refine kstC (v := slv (some ⟨b11, 0, none⟩, 32, 32)) hM (fun w hc hM => ?_) (hf := by simp; omega) (hs := hset)
        refine x_wy (.inl (hc.bwn h0 (.inr (by simp)))) rfl ?_
        refine wy_done (by kernel_rfl) (fun w hc => ?_)
        have hM := hM.call hc
        repeat (first | ((with_reducible apply is_ld); first | refine kld hM ?_ | refine kldw hM ?_ | refine kle hM ?_ | refine klew hM ?_ | refine kldh hM ?_ | refine kld hM ?_ (hv := by first | exact hs_get _ _ _ | exact hs_get1 _ _ _ _)) | ((with_reducible apply is_sto); first | (refine kst hM ?_; intro w hM) | (refine kstw hM ?_; intro w hM)) | ((with_reducible apply is_st); refine su ?_) | ((with_reducible apply is_gd); first | refine gt ?_ | refine gf ?_ | refine gu ?_) | ((with_reducible apply is_en); refine en ?_) | (with_reducible apply c_region) | refine ws ?_ | refine x_block_other (by decide) ?_ | (refine ci_region (by (repeat (first | exact noOut_round | exact noOut_fls | exact noOut_M | apply noOut_then | apply noOut_block))) rfl ?_) )
        refine ci_ordY ([12, 13], []) [] (by (repeat (first | exact noOut_round | exact noOut_fls | exact noOut_M | apply noOut_then | apply noOut_block))) rfl (by kernel_rfl) (by kernel_rfl) (by kernel_rfl) (fun w hc hs => ?_)
        have hM := hM.call hc
        have hl8 := Blk.lt (hM.blk (b := b8) (by (repeat constructor)))
        have hl10 := Blk.lt (hM.blk (b := b10) (by (repeat constructor)))
        have hl12 := Blk.lt (hM.blk (b := b12) (by (repeat constructor)))
        refine ynl 0 rfl (hM.blk (b := b8) (by (repeat constructor))) (by omega) (by simp) rfl rfl ?_
        (first | refine yn 1 rfl ?_ | refine ynt 1 rfl ?_ | refine ynff 1 rfl ?_)
        refine ynl 2 rfl (hM.blk (b := b10) (by (repeat constructor))) (by omega) (by simp) rfl rfl ?_
        (first | refine yn 3 rfl ?_ | refine ynt 3 rfl ?_ | refine ynff 3 rfl ?_)
        rw [← hu]
        (first | refine yn 5 rfl ?_ | refine ynt 5 rfl ?_ | refine ynff 5 rfl ?_)
        refine ynl 6 rfl (hM.blk (b := b12) (by (repeat constructor))) (by omega) (by simp) rfl rfl ?_
        (first | refine yn 7 rfl ?_ | refine ynt 7 rfl ?_ | refine ynff 7 rfl ?_)
        refine ynl 8 rfl (hM.blk (b := b12) (by (repeat constructor))) (by omega) (by simp) rfl rfl ?_
        refine yk1 4 hM (by kernel_rfl) rfl (fun w h0 hM => ?_)
        refine kbsC (en := eU8) (vs := [u8v (UInt8.ofNat I)]) [UInt8.ofNat I] hM (fun w b59 hc hM => ?_) (hm := by intro v hv; simp at hv; subst hv; rfl)
        refine x_wy (.inl (hc.gy h0)) rfl ?_
        refine yk1 9 hM (by kernel_rfl) rfl (fun w h0 hM => ?_)
        refine kbsC (en := eSl) (vs := [slv (some ⟨b59, 0, none⟩, 1, 1), slv ua, slv ub]) [(some ⟨b59, 0, none⟩, 1, 1), ua, ub] hM (fun w b60 hc hM => ?_)
        refine x_wy (.inl (hc.gy h0)) rfl ?_
        refine yk1 10 hM (by kernel_rfl) rfl (fun w h0 hM => ?_)
        obtain ⟨hra, hrb⟩ := hrd w (hM.cell8 (b := b11) (o := 0) (by (repeat constructor)) (by exact hs_take _) hH.2) (hM.cell8 (b := b10) (o := 1) (by (repeat constructor)) (by exact hs_take _) xs.2)
        have hRb := hM.rows8 (ps := [((some ⟨b59, 0, none⟩, 1, 1), [UInt8.ofNat I]), (ua, xa), (ub, xb)]) (by (repeat constructor)) (rof33 (hM.rowRdO (en := eU8) (by (repeat constructor))) hra hrb)
        have hbz := bytes_any 4 _ _ w hRb (by simp [hxa, hxb])
        rw [show 4 :: (List.map (fun p : SlV × List UInt8 => p.2) [((some ⟨b59, 0, none⟩, 1, 1), [UInt8.ofNat I]), (ua, xa), (ub, xb)]).flatten = forkX k ((I : Int), xs) hH by rw [hfx]; simp] at hbz
        refine ca hbz ?_
        rintro v61 w2 ⟨hO, hc2⟩
        have hM := hM.got hc2 hO
        obtain ⟨u61, rfl⟩ : ∃ u : SlV, v61 = slv u := by obtain ⟨A, c, rfl, _⟩ := hO.form; exact ⟨(A, _, c), rfl⟩
        have hM := hM.rowFrd (by rw [forkX_len]; omega)
        have hM := (hM.pick (a := .many tU8 B ps) (by (repeat constructor))).manyPut
        refine x_wy (.inl (hc2.gy h0)) rfl ?_
        refine yk1 11 hM (by kernel_rfl) rfl (fun w h0 hM => ?_)
        refine kbsC (en := eSl) (vs := [slv u61]) [u61] hM (fun w b65 hc hM => ?_)
        refine x_wy (.inl (hc.gy h0)) rfl ?_
        refine yk1 12 hM (by kernel_rfl) rfl (fun w h0 hM => ?_)
        refine kapC (en := eSl) (ys := [u61]) hM (hM.rowRd (en := eSl) (xs := [u61]) (by (repeat constructor)) (by simp)) (fun v66 w hsz hM => ?_) (hb := by simp; omega) (h63 := by simp; omega)
        obtain ⟨u66, rfl⟩ : ∃ u : SlV, v66 = slv u := by obtain ⟨A, c, rfl, _⟩ := (hM.row0 (v := v66) (by (repeat constructor))).form; exact ⟨(A, _, c), rfl⟩
        refine x_wy (.inr ⟨by decide, Nat.le_trans h0 hsz⟩) rfl ?_
        refine yk1 13 hM (by kernel_rfl) rfl (fun w h0 hM => ?_)
        refine kstC (v := slv u66) hM (fun w hc hM => ?_)
        refine x_wy (.inr ⟨by decide, Nat.le_trans h0 hc.size⟩) rfl ?_
        refine wy_done (by kernel_rfl) (fun w hc => ?_)
        have hM := hM.call hc
        repeat (first | ((with_reducible apply is_ld); first | refine kld hM ?_ | refine kldw hM ?_ | refine kle hM ?_ | refine klew hM ?_ | refine kldh hM ?_ | refine kld hM ?_ (hv := by first | exact hs_get _ _ _ | exact hs_get1 _ _ _ _)) | ((with_reducible apply is_sto); first | (refine kst hM ?_; intro w hM) | (refine kstw hM ?_; intro w hM)) | ((with_reducible apply is_st); refine su ?_) | ((with_reducible apply is_gd); first | refine gt ?_ | refine gf ?_ | refine gu ?_) | ((with_reducible apply is_en); refine en ?_) | (with_reducible apply c_region) | refine ws ?_ | refine x_block_other (by decide) ?_ | (refine ci_region (by (repeat (first | exact noOut_round | exact noOut_fls | exact noOut_M | apply noOut_then | apply noOut_block))) rfl ?_) )
        have hmp : ps.map (fun p : SlV × List UInt8 => p.1) ++ [u61] = (ps ++ [(u61, forkX k ((I : Int), xs) hH)]).map (fun p : SlV × List UInt8 => p.1) := by simp
        rw [hmp] at hM
        refine ⟨[.cell b8 [slv u66] 114, .row eSl 28 (slv u66) ((ps ++ [(u61, forkX k ((I : Int), xs) hH)]).map (fun p : SlV × List UInt8 => p.1)), .many tU8 _ (ps ++ [(u61, forkX k ((I : Int), xs) hH)]), .cell b3 (pC (.slice A st.length c) true pk pv) 49, .cell b2 (k.1.map u8v) 30], ⟨u66, _, _, rfl, by simp [hpl], ?_, ?_⟩, hM.sub (by (repeat (first | exact Go.Proofs.E.Sub.refl _ | exact Go.Proofs.E.Sub.nil | (apply Go.Proofs.E.Sub.cons; (repeat (first | exact Go.Proofs.E.Pick.here | apply Go.Proofs.E.Pick.there))) | apply Go.Proofs.E.Sub.tail)))⟩
        · intro x hx
          rw [List.map_append, List.mem_append] at hx
          rcases hx with hx | hx
          · exact hpb x hx
          · simp at hx
            subst hx
            rw [forkX_len]
            omega
        · rw [hf, List.length_append, List.map_append]
          rfl
      · rintro D w La ⟨uw, ps, B, rfl, hpl, hpb, hf⟩ hM
        rw [List.drop_eq_nil_of_le (by simp), downL] at hf
        rw [hf]
        simp only [List.cons_append, List.nil_append] at hM
        have hD := hM.head
        change Code.wp _ _ _ _ _
        refine wp_seq ?_
        refine c_regd rfl (noOut_then noOut_M) ?_
        repeat (first | refine gh ?_ | (refine ks ?_; intro w hM))
        change Code.wp _ _ _ (frd _ _) w
        refine wp_ret ?_
        refine post1 (hM.pick (a := .obj D _) (by (repeat constructor))).head ?_
        have hM := ((hM.pick (a := .obj D _) (by (repeat constructor))).putObj (o' := .deferred none)).sub (M := [.row eSl 28 (slv uw) (ps.map (fun p : SlV × List UInt8 => p.1)), .many tU8 B ps]) (by (repeat constructor))
        have hM := hM.manyFrd (by simp at hpl; omega)
        exact out2 rfl ⟨_, _, rfl, hM⟩
      · rintro D cd pre w La h hM
        exact h.elim
end Go.Proofs.YtkdbinchlpdkmaaDoor
set_option linter.unusedVariables false
set_option linter.unusedSimpArgs false
namespace Go.Proofs.YtkdbinchlpdkmaaDoor
open Go Go.RowKit Go.Proofs.E
attribute [local irreducible] Go.wpList Go.Code.wp Go.Proofs.E.exec Go.Proofs.E.wpLexG
end Go.Proofs.YtkdbinchlpdkmaaDoor
set_option linter.unusedVariables false
set_option linter.unusedSimpArgs false
namespace Go.Proofs.YtkdbinchlpdkmaaDoor
open Go Go.RowKit Go.Proofs.E
attribute [local irreducible] Go.wpList Go.Code.wp Go.Proofs.E.exec Go.Proofs.E.wpLexG
theorem downL_mem (k : Hs) : ∀ (r : List (Int × Hs)) (l : List (List UInt8)), (∀ x ∈ l, x.length ≤ 66) → ∀ x ∈ downL k r l, x.length ≤ 66
  | [], l, h => h
  | s :: r, l, h => downL_mem k r _ (fun x hx => by
    rcases List.mem_append.1 hx with hx | hx
    · exact h x hx
    · simp at hx
      subst hx
      rw [forkX_len]
      omega)
theorem downL_len (k : Hs) : ∀ (r : List (Int × Hs)) (l : List (List UInt8)), (downL k r l).length = l.length + r.length
  | [], l => rfl
  | s :: r, l => by
    rw [downL, downL_len k r]
    simp
    omega
theorem climbP_good {k : Hs} {st : List (Int × Hs)} {lf : Bool} {pk pv : Hs} (h : (climbP k st lf pk pv).isSome = true) : goodSt (-1) st = true := by
  unfold climbP at h
  split at h
  · rename_i hg
    unfold goodP at hg
    simp only [Bool.and_eq_true] at hg
    exact hg.1
  · cases h
theorem downsP_mem (k : Hs) (st : List (Int × Hs)) (lf : Bool) (pk pv : Hs) : ∀ x ∈ downsP k st lf pk pv, x.length ≤ 66 := by
  unfold downsP
  split
  · split
    · exact downL_mem k _ _ (fun x hx => by simp at hx; subst hx; simp)
    · intro x hx
      simp at hx
      subst hx
      simp
  · simp
theorem downsP_len (k : Hs) (st : List (Int × Hs)) (lf : Bool) (pk pv : Hs) : (downsP k st lf pk pv).length ≤ 257 := by
  unfold downsP
  split
  · rename_i h
    have := goodSt_len (climbP_good h) (by omega)
    split
    · rw [downL_len]
      simp
      omega
    · simp
  · simp
end Go.Proofs.YtkdbinchlpdkmaaDoor
set_option linter.unusedVariables false
set_option linter.unusedSimpArgs false
namespace Go.Proofs.YtkdbinchlpdkmaaDoor
open Go Go.RowKit Go.Proofs.E
attribute [local irreducible] Go.wpList Go.Code.wp Go.Proofs.E.exec Go.Proofs.E.wpLexG
theorem rleaf_any (v : Value) (bs : List UInt8) (w0 : World) (hR : tU8.Rd [] w0 v bs) (hb : bs.length ≤ 1000000000) : Calls Tryd.prog 14 #[v] w0 (Ret fun u w' => u = hv (shaH (0 :: bs)).1 ∧ Ch [] w0 w') := by
  have hM := Mem.start w0
  obtain ⟨uv, rfl⟩ := hR.slv
  refine enter [slv uv, undef, undef, undef, undef, undef] Tryd.func14 rfl rfl ?_
  repeat (first | refine gw ?_ | (refine ks ?_; intro w hM))
  refine kal hM (fun w b2 hM => ?_)
  repeat (first | refine gw ?_ | (refine ks ?_; intro w hM))
  refine kbs (en := eSl) (vs := [slv uv]) [uv] hM (fun w b4 hM => ?_)
  have hRb : (Ty.sl tU8).Rd [] w _ ([(uv, bs)].map (fun p : SlV × List UInt8 => p.2)) := Ty.Rd.unraw (hM.rowRd (en := eSl) (xs := [uv]) (by (repeat constructor)) (by simp)) (fun p hp => by simp at hp; subst hp; exact hR.ch hM.ch)
  refine kca hM (rof_any 0 _ _ w hRb (by simp; omega)) (X := hv (shaH (0 :: [bs].flatten)).1) (fun w hM => ?_)
  refine kstw (vs := (shaH (0 :: [bs].flatten)).1.map u8v) hM (fun w hM => ?_)
  rw [show [bs].flatten = bs by simp] at hM
  repeat (first | refine gw ?_ | (refine ks ?_; intro w hM))
  exact koc hM rfl ⟨rfl, hM.ch⟩
theorem upsZ_ex : upsZ 1 0 [97] [] = [[0, 97]] ∧ (climbZ 1 0 zeroH []).2 = true := by
  have h1 : turnsN 1 0 = [] := turns_one (by omega)
  have h2 : (climbZ 1 0 zeroH []).2 = true := climbZ_ok.2 ⟨by decide, by show (turnsN 1 0).length = 0; rw [h1]; rfl⟩
  refine ⟨?_, h2⟩
  unfold upsZ
  rw [if_pos h2]
  unfold sidesB
  rw [show turnsN (1 : Int).toNat (0 : Int).toNat = [] from h1]
  rfl
theorem leavesZ_ex : leavesZ 1 0 [97] [] [97] [] = none := by
  unfold leavesZ
  rw [if_pos ⟨upsZ_ex.2, upsZ_ex.2⟩, upsZ_ex.1]
  show firstL [([0, 97], [0, 97])] = none
  rw [firstL, if_pos rfl]
  rfl
set_option maxHeartbeats 8000000 in
theorem lives20_any (w0 : World) (hK : Laid w0) : Calls Tryd.prog 13 #[] w0 (Ret fun u w' => u = .bool true ∧ Ch [] w0 w') := by
  have hM := Mem.start w0
  refine enter [undef, undef, undef, undef, undef, undef, undef, undef, undef, undef, undef, undef, undef, undef, undef, undef, undef, undef, undef, undef, undef, undef, undef, undef, undef, undef, undef, undef, undef, undef, undef, undef, undef, undef, undef, undef, undef, undef, undef, undef, undef, undef, undef, undef, undef] Tryd.func13 rfl rfl ?_
  repeat (first | refine gw ?_ | (refine ks ?_; intro w hM))
  refine wl_make (n := 1) (c := 1) rfl rfl (Nat.le_refl _) (by decide) (by decide) (fun w b1 cs hN hcs => ?_)
  have hM := hM.alloc hN
  repeat (first | refine gw ?_ | (refine ks ?_; intro w hM))
  refine kbs (en := eU8) (vs := [u8v 97]) [97] hM (fun w b9 hM => ?_) (hm := by intro v hv; simp at hv; subst hv; rfl)
  refine kc88 hM (fun w hc hM => ?_)
  repeat (first | refine gw ?_ | (refine ks ?_; intro w hM))
  refine kca hM (rleaf_any _ [97] w (hM.frdRd (by (repeat constructor))) (by decide)) (fun w hM => ?_)
  repeat (first | refine gw ?_ | (refine ks ?_; intro w hM))
  (try ((with_reducible apply is_gd); first | refine gt ?_ | refine gf ?_ | refine gu ?_)); refine wl_val (r_indexAddr (i := 0) rfl rfl (by decide) (by decide)) ?_
  refine kstw (vs := (shaH (0 :: [97])).1.map u8v) hM (fun w hM => ?_) (hf := by omega)
  repeat (first | refine gw ?_ | (refine ks ?_; intro w hM))
  refine kbs (en := eU8) (vs := [u8v 97]) [97] hM (fun w b14 hM => ?_) (hm := by intro v hv; simp at hv; subst hv; rfl)
  refine kc88 hM (fun w hc hM => ?_)
  repeat (first | refine gw ?_ | (refine ks ?_; intro w hM))
  refine ca (cups_any 1 0 _ (.slice none 0 0) [97] [] w (hK.ch hM.ch (by simp)) (hM.frdRd (xs := [97]) (by (repeat constructor))) (Ty.Rd.nil _ _ _ _ _) (by decide)) ?_
  rintro _ w1 ⟨v2, B, rfl, hN2⟩
  rw [upsZ_ex.1] at hN2
  rw [upsZ_ex.2]
  have hM := hM.nil.join hN2 (by simp [As.plain])
  repeat (first | refine gw ?_ | (refine ks ?_; intro w hM))
  refine kbs (en := eU8) (vs := [u8v 97]) [97] hM (fun w b20 hM => ?_) (hm := by intro v hv; simp at hv; subst hv; rfl)
  refine kc88 hM (fun w hc hM => ?_)
  repeat (first | refine gw ?_ | (refine ks ?_; intro w hM))
  refine kbs (en := eU8) (vs := [u8v 97]) [97] hM (fun w b22 hM => ?_) (hm := by intro v hv; simp at hv; subst hv; rfl)
  refine kc88 hM (fun w hc hM => ?_)
  repeat (first | refine gw ?_ | (refine ks ?_; intro w hM))
  refine ca (cleaves_any 1 0 (.slice (some ⟨b20, 0, none⟩) 1 1) (.slice none 0 0) (.slice (some ⟨b22, 0, none⟩) 1 1) (.slice none 0 0) [97] [97] [] [] w (hK.ch hM.ch (by simp)) (hM.frdRd (by (repeat constructor))) (Ty.Rd.nil _ _ _ _ _) (hM.frdRd (by (repeat constructor))) (Ty.Rd.nil _ _ _ _ _) (by decide) (by decide) (by decide)) ?_
  rintro _ w2 ⟨v4, v5, rfl, hN4⟩
  rw [leavesZ_ex] at hN4 ⊢
  have hM := hM.join hN4 (by simp [As.plain])
  have hR2 := hM.frdRd (t := Ty.sl tU8) (v := v2) (xs := [[0, 97]]) (by (repeat constructor))
  obtain ⟨ps, hps, hP, hp⟩ := hR2.raw
  obtain ⟨u, rfl⟩ : ∃ u : SlV, ps = [(u, [0, 97])] := by
    cases ps with
    | nil => cases hps
    | cons q ps =>
      cases ps with
      | nil => simp at hps; exact ⟨q.1, by rw [← hps]⟩
      | cons r ps => simp at hps
  obtain ⟨A, c, rfl⟩ := hP.form
  repeat (first | refine gw ?_ | (refine ks ?_; intro w hM))
  (try ((with_reducible apply is_gd); first | refine gt ?_ | refine gf ?_ | refine gu ?_)); refine ix hP (fun b o x hx hA => ?_)
  (try ((with_reducible apply is_gd); first | refine gt ?_ | refine gf ?_ | refine gu ?_)); refine ld hA ?_
  obtain rfl : u = x := by simpa using hx
  (try ((with_reducible apply is_gd); first | refine gt ?_ | refine gf ?_ | refine gu ?_)); refine wl_val (r_b2s (hp (u, [0, 97]) (by simp))) ?_
  (try ((with_reducible apply is_gd); first | refine gt ?_ | refine gf ?_ | refine gu ?_)); refine wl_val (r_eqst (b := [0, 97])) ?_
  repeat (first | refine gw ?_ | (refine ks ?_; intro w hM))
  exact out1 rfl ⟨rfl, hM.ch⟩
end Go.Proofs.YtkdbinchlpdkmaaDoor
set_option linter.unusedVariables false
set_option linter.unusedSimpArgs false
namespace Go.Proofs.YtkdbinchlpdkmaaDoor
open Go Go.RowKit Go.Proofs.E
attribute [local irreducible] Go.wpList Go.Code.wp Go.Proofs.E.exec Go.Proofs.E.wpLexG
theorem slv_len {α : Type} {t : Ty α} {S : List Nat} {w : World} {u : SlV} {xs : List α} (h : t.Rd S w (slv u) xs) : u.2.1 = xs.length := by
  obtain ⟨A, c, h⟩ := h.form
  unfold slv at h
  injection h
end Go.Proofs.YtkdbinchlpdkmaaDoor
set_option linter.unusedVariables false
set_option linter.unusedSimpArgs false
namespace Go.Proofs.YtkdbinchlpdkmaaDoor
open Go Go.RowKit Go.Proofs.E
attribute [local irreducible] Go.wpList Go.Code.wp Go.Proofs.E.exec Go.Proofs.E.wpLexG
def shortGo : Nat → List (List UInt8) → Bool
  | _, [] => true
  | n, b :: bs => if 3000 < n + b.length then false else shortGo (n + b.length) bs
def shortL (xss : List (List UInt8)) : Bool := decide (xss.length ≤ 60) && shortGo xss.length xss
theorem shortGo_mem : ∀ {n : Nat} {xss : List (List UInt8)}, shortGo n xss = true → ∀ x ∈ xss, x.length ≤ 3000
  | _, [], _, x, hx => by simp at hx
  | n, b :: bs, h, x, hx => by
    rw [shortGo] at h
    split at h
    · cases h
    · rcases List.mem_cons.1 hx with rfl | hx
      · omega
      · exact shortGo_mem h x hx
theorem shortL_spec {xss : List (List UInt8)} (h : shortL xss = true) : xss.length ≤ 60 ∧ ∀ x ∈ xss, x.length ≤ 3000 := by
  unfold shortL at h
  simp only [Bool.and_eq_true, decide_eq_true_eq] at h
  exact ⟨h.1, shortGo_mem h.2⟩
set_option maxHeartbeats 4000000 in
theorem short_any (v : Value) (xss : List (List UInt8)) (w0 : World) (hR : (Ty.sl tU8).Rd [] w0 v xss) (hbd : ∀ x ∈ xss, x.length ≤ 281474976710656) : Calls Tryd.prog 12 #[v] w0 (Ret fun u w' => u = .bool (shortL xss) ∧ Ch [] w0 w') := by
  have hM := Mem.start w0
  obtain ⟨ps, rfl, hP, hp⟩ := hR.raw
  have hle := hP.le
  obtain ⟨A, c, rfl⟩ := hP.form
  simp only [List.length_map] at hle hP ⊢
  unfold shortL
  rw [List.length_map]
  refine enter [.slice A ps.length c, undef, undef, undef, undef, undef, undef, undef, undef, undef, undef, undef, undef, undef, undef, undef, undef, undef, undef, undef, undef, undef, undef] Tryd.func12 rfl rfl ?_
  repeat (first | refine gw ?_ | (refine ks ?_; intro w hM))
  by_cases h60 : ps.length ≤ 60
  case neg =>
    rw [decide_eq_false h60]
    refine c_cond rfl (fun _ => ?_) (fun h => absurd (by omega) h)
    repeat (first | refine gw ?_ | (refine ks ?_; intro w hM))
    exact out1 rfl ⟨rfl, Ch.refl _ _⟩
  case pos =>
  rw [decide_eq_true h60, Bool.true_and]
  refine c_cond rfl (fun h => absurd h (by omega)) (fun _ => ?_)
  repeat (first | refine gw ?_ | (refine ks ?_; intro w hM))
  
  refine c_loop (fun k l w => ∃ (n j : Nat), (∃ jj : Nat → Value, l = [jj 0, jj 1, .bool false, .int .i64 (n : Int), jj 4, jj 5, jj 6, jj 7, jj 8, jj 9, .slice A ps.length c, .int .i64 (ps.length : Int), .int .i64 (j : Int), jj 13, jj 14, jj 15, jj 16, jj 17, jj 18, jj 19, jj 20, jj 21, jj 22]) ∧ k + j = ps.length ∧ n ≤ 3060 ∧ Mem [] w0 w [] ∧ shortGo ps.length (ps.map (fun p : SlV × List UInt8 => p.2)) = shortGo n ((ps.drop j).map (fun p : SlV × List UInt8 => p.2))) ps.length
    ⟨ps.length, 0, exj rfl, rfl, by omega, hM, rfl⟩ ?_
  clear hM
  rintro k l w ⟨n, j, ⟨jj, rfl⟩, hkj, hn, hM, hf⟩
  repeat (first | refine gw ?_ | (refine ks ?_; intro w hM))
  refine c_cond rfl (fun hj => ?_) (fun hj => ?_)
  · repeat (first | refine gw ?_ | (refine ks ?_; intro w hM))
    refine kix hP (fun b o x hx hA => ?_) (h1 := by simp; omega)
    rw [Int.toNat_natCast, List.getElem?_map] at hx
    obtain ⟨p, hpx, rfl⟩ := Option.map_eq_some_iff.1 hx
    have hpm := List.mem_of_getElem? hpx
    have hd : ps.drop j = p :: ps.drop (j + 1) := by
      obtain ⟨hlt, he⟩ := List.getElem?_eq_some_iff.1 hpx
      rw [List.drop_eq_getElem_cons hlt, he]
    rw [hd, List.map_cons, shortGo] at hf
    have hl := slv_len (hp p hpm)
    have hpl := hbd p.2 (List.mem_map_of_mem hpm)
    refine kat hM hA ?_
    repeat (first | refine gw ?_ | (refine ks ?_; intro w hM))
    by_cases h3 : 3000 < n + p.2.length
    · rw [if_pos h3] at hf
      refine c_cond rfl (fun _ => ?_) (fun h => absurd (by omega) h)
      repeat (first | refine gw ?_ | (refine ks ?_; intro w hM))
      exact out1 rfl ⟨by rw [hf]; rfl, hM.ch⟩
    · rw [if_neg h3] at hf
      refine c_cond rfl (fun h => absurd h (by omega)) (fun _ => ?_)
      repeat (first | refine gw ?_ | (refine ks ?_; intro w hM))
      exact x_goes (k - 1) rfl (by omega) ⟨n + p.2.length, j + 1, exj (by rw [show ((n + p.2.length : Nat) : Int) = (n : Int) + (p.1.2.1 : Int) by omega]; rfl), by omega, by omega, hM, hf⟩
  · repeat (first | refine gw ?_ | (refine ks ?_; intro w hM))
    rw [List.drop_eq_nil_of_le (by omega)] at hf
    exact out1 rfl ⟨by rw [hf]; rfl, hM.ch⟩
/-! ### The plain law -/
end Go.Proofs.YtkdbinchlpdkmaaDoor

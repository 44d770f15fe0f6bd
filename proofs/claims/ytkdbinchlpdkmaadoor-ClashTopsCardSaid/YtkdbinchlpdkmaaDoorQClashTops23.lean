/- Walks: a key's bits, both.
   Walks: the hashes of nothing, of an item, of a fork, both.
   Walks: the hashes of an item and of a fork, both; structs compared; helpers for blocks that hold hashes.
   Walks: whether a proof of a key may be, both.
   Walks: the root that a proof of a key leads to, both.
   Walks: the root that a proof of a key leads to, both.
   The document's map, plainly: bits of keys, their order, what is put, cut, rooted.
   The document's map, plainly: its root, and what is proved of a key. -/
import Derived.Test.YtkdbinchlpdkmaaDoorQClashTops15
import Derived.Test.YtkdbinchlpdkmaaDoorQClashTops22
set_option linter.unusedVariables false
set_option linter.unusedSimpArgs false
namespace Go.Proofs.YtkdbinchlpdkmaaDoor
open Go Go.RowKit Go.Proofs.E
attribute [local irreducible] Go.wpList Go.Code.wp Go.Proofs.E.exec Go.Proofs.E.wpLexG
def shaH (bs : List UInt8) : Hs := ⟨shaOf bs, shaOf_len bs⟩
def bitN (k : Hs) (i : Nat) : Nat := (k.1.getD (i / 8) 0).toNat / 2 ^ (7 - i % 8) % 2
def bitZ (k : Hs) (i : Int) : Nat := if 0 ≤ i ∧ i ≤ 255 then bitN k i.toNat else 0
theorem bitZ_lt (k : Hs) (i : Int) : bitZ k i < 2 := by
  unfold bitZ bitN
  split <;> omega
theorem tbit_any (k : Hs) (i : Int) (w0 : World) : Calls Tryd.prog 66 #[hv k.1, .int .i64 i] w0 (Ret fun u w' => u = .int .i64 (bitZ k i : Int) ∧ Ch [] w0 w') := by
  have hM := Mem.start w0
  refine enter [hv k.1, .int .i64 i, undef, undef, undef, undef, undef, undef, undef, undef, undef, undef, undef, undef, undef, undef, undef, undef, undef, undef, undef] Tryd.func66 rfl rfl ?_
  repeat (first | refine gw ?_ | (refine ks ?_; intro w hM))
  refine kbx hM (fun w b2 hM => ?_)
  unfold bitZ
  repeat (first | refine gw ?_ | (refine ks ?_; intro w hM))
  by_cases h0 : i < 0
  · rw [decide_eq_true h0, if_neg (by omega)]
    repeat (first | refine gw ?_ | (refine ks ?_; intro w hM))
    refine c_condb rfl (fun _ => ?_) (fun h => by cases h)
    repeat (first | refine gw ?_ | (refine ks ?_; intro w hM))
    exact out1 rfl ⟨rfl, hM.ch⟩
  · rw [decide_eq_false h0]
    repeat (first | refine gw ?_ | (refine ks ?_; intro w hM))
    by_cases h1 : i ≥ 256
    · rw [decide_eq_true h1, if_neg (by omega)]
      repeat (first | refine gw ?_ | (refine ks ?_; intro w hM))
      refine c_condb rfl (fun _ => ?_) (fun h => by cases h)
      repeat (first | refine gw ?_ | (refine ks ?_; intro w hM))
      exact out1 rfl ⟨rfl, hM.ch⟩
    · rw [decide_eq_false h1, if_pos ⟨by omega, by omega⟩]
      obtain ⟨I, rfl⟩ := Int.eq_ofNat_of_zero_le (by omega : 0 ≤ i)
      rw [Int.toNat_natCast]
      repeat (first | refine gw ?_ | (refine ks ?_; intro w hM))
      refine c_condb rfl (fun h => by cases h) (fun _ => ?_)
      repeat (first | refine gw ?_ | (refine ks ?_; intro w hM))
      have e8 : (I : Int).fdiv (2 ^ min (3 : Int).toNat IntKind.i64.bits) = ((I / 8 : Nat) : Int) := by
        rw [show (2 : Int) ^ min (3 : Int).toNat IntKind.i64.bits = ((8 : Nat) : Int) by rfl]
        exact (Int.ofNat_fdiv I 8).symm
      have e7 : (I : Int).fdiv (2 ^ min (3 : Int).toNat IntKind.i64.bits) = ((I / 8 : Nat) : Int) := e8
      rw [e8]
      have hk := k.2
      obtain ⟨x, hx⟩ : ∃ x, k.1[I / 8]? = some x := ⟨_, List.getElem?_eq_getElem (by omega)⟩
      have hB : Blk w b2 (k.1.map u8v) 30 := hM.blk (by (repeat constructor))
      (try ((with_reducible apply is_gd); first | refine gt ?_ | refine gf ?_ | refine gu ?_)); refine wl_val (r_indexAddr_arr (i := ((I / 8 : Nat) : Int)) rfl rfl (by omega) (by omega)) ?_
      refine ldb hB rfl (v := u8v x) (by rw [show 0 + ((I / 8 : Nat) : Int).toNat * 1 = I / 8 by omega, List.getElem?_map, hx]; rfl) ?_
      repeat (first | refine gw ?_ | (refine ks ?_; intro w hM))
      have ea : I &&& 7 = I % 8 := Nat.and_two_pow_sub_one_eq_mod I 3
      (try ((with_reducible apply is_gd); first | refine gt ?_ | refine gf ?_ | refine gu ?_)); refine wl_val (r_andN (a := I) (b := 7) (.inr rfl) rfl rfl (.inl (by omega)) (.inl (by omega))) ?_
      rw [ea]
      repeat (first | refine gw ?_ | (refine ks ?_; intro w hM))
      have es : ((x.toNat : Int)).fdiv (2 ^ min ((7 : Int) - ((I % 8 : Nat) : Int)).toNat IntKind.u8.bits) = ((x.toNat / 2 ^ (7 - I % 8) : Nat) : Int) := by
        rw [show min ((7 : Int) - ((I % 8 : Nat) : Int)).toNat IntKind.u8.bits = 7 - I % 8 by simp only [IntKind.bits]; omega]
        rw [show ((2 : Int) ^ (7 - I % 8)) = ((2 ^ (7 - I % 8) : Nat) : Int) by simp]
        exact (Int.ofNat_fdiv _ _).symm
      have hsm : x.toNat / 2 ^ (7 - I % 8) < 256 := Nat.lt_of_le_of_lt (Nat.div_le_self _ _) x.toNat_lt
      have ew : IntKind.i64.wrap ((x.toNat / 2 ^ (7 - I % 8) : Nat) : Int) = ((x.toNat / 2 ^ (7 - I % 8) : Nat) : Int) := (fun (q : Nat) (h : q < 256) => (wrap_rng (by exact rfl) (by omega) (by omega) : IntKind.i64.wrap (q : Int) = (q : Int))) _ hsm
      rw [es, ew]
      (try ((with_reducible apply is_gd); first | refine gt ?_ | refine gf ?_ | refine gu ?_)); refine wl_val (r_andN (a := x.toNat / 2 ^ (7 - I % 8)) (b := 1) (.inr rfl) rfl rfl (.inl (by omega)) (.inl (by omega))) ?_
      repeat (first | refine gw ?_ | (refine ks ?_; intro w hM))
      refine out1 rfl ⟨?_, hM.ch⟩
      rw [Nat.and_one_is_mod]
      unfold bitN
      rw [List.getD_eq_getElem?_getD, hx]
      rfl
theorem rbit_any (k : Hs) (i : Int) (w0 : World) : Calls Tryd.prog 63 #[hv k.1, .int .i64 i] w0 (Ret fun u w' => u = .int .i64 (bitZ k i : Int) ∧ Ch [] w0 w') := by
  have hM := Mem.start w0
  refine enter [hv k.1, .int .i64 i, undef, undef, undef, undef, undef, undef, undef, undef, undef, undef, undef, undef, undef, undef, undef, undef, undef, undef, undef, undef] Tryd.func63 rfl rfl ?_
  repeat (first | refine gw ?_ | (refine ks ?_; intro w hM))
  refine kbx hM (fun w b2 hM => ?_)
  unfold bitZ
  repeat (first | refine gw ?_ | (refine ks ?_; intro w hM))
  by_cases h0 : i < 0
  · rw [decide_eq_true h0, if_neg (by omega)]
    repeat (first | refine gw ?_ | (refine ks ?_; intro w hM))
    refine c_condb rfl (fun _ => ?_) (fun h => by cases h)
    repeat (first | refine gw ?_ | (refine ks ?_; intro w hM))
    exact out1 rfl ⟨rfl, hM.ch⟩
  · rw [decide_eq_false h0]
    repeat (first | refine gw ?_ | (refine ks ?_; intro w hM))
    by_cases h1 : i > 255
    · rw [decide_eq_true h1, if_neg (by omega)]
      repeat (first | refine gw ?_ | (refine ks ?_; intro w hM))
      refine c_condb rfl (fun _ => ?_) (fun h => by cases h)
      repeat (first | refine gw ?_ | (refine ks ?_; intro w hM))
      exact out1 rfl ⟨rfl, hM.ch⟩
    · rw [decide_eq_false h1, if_pos ⟨by omega, by omega⟩]
      obtain ⟨I, rfl⟩ := Int.eq_ofNat_of_zero_le (by omega : 0 ≤ i)
      rw [Int.toNat_natCast]
      repeat (first | refine gw ?_ | (refine ks ?_; intro w hM))
      refine c_condb rfl (fun h => by cases h) (fun _ => ?_)
      repeat (first | refine gw ?_ | (refine ks ?_; intro w hM))
      have e8 : IntKind.i64.wrap ((I : Int).tdiv 8) = ((I / 8 : Nat) : Int) := by
        rw [show (I : Int).tdiv 8 = ((I / 8 : Nat) : Int) from (Int.ofNat_tdiv I 8).symm]
        exact wrap_rng (by exact rfl) (by omega) (by omega)
      have e7 : (I : Int).tmod 8 = ((I % 8 : Nat) : Int) := (Int.ofNat_tmod I 8).symm
      rw [e8]
      have hk := k.2
      obtain ⟨x, hx⟩ : ∃ x, k.1[I / 8]? = some x := ⟨_, List.getElem?_eq_getElem (by omega)⟩
      have hB : Blk w b2 (k.1.map u8v) 30 := hM.blk (by (repeat constructor))
      (try ((with_reducible apply is_gd); first | refine gt ?_ | refine gf ?_ | refine gu ?_)); refine wl_val (r_indexAddr_arr (i := ((I / 8 : Nat) : Int)) rfl rfl (by omega) (by omega)) ?_
      refine ldb hB rfl (v := u8v x) (by rw [show 0 + ((I / 8 : Nat) : Int).toNat * 1 = I / 8 by omega, List.getElem?_map, hx]; rfl) ?_
      repeat (first | refine gw ?_ | (refine ks ?_; intro w hM))
      rw [e7]
      have es : ((x.toNat : Int)).fdiv (2 ^ min ((7 : Int) - ((I % 8 : Nat) : Int)).toNat IntKind.u8.bits) = ((x.toNat / 2 ^ (7 - I % 8) : Nat) : Int) := by
        rw [show min ((7 : Int) - ((I % 8 : Nat) : Int)).toNat IntKind.u8.bits = 7 - I % 8 by simp only [IntKind.bits]; omega]
        rw [show ((2 : Int) ^ (7 - I % 8)) = ((2 ^ (7 - I % 8) : Nat) : Int) by simp]
        exact (Int.ofNat_fdiv _ _).symm
      have hsm : x.toNat / 2 ^ (7 - I % 8) < 256 := Nat.lt_of_le_of_lt (Nat.div_le_self _ _) x.toNat_lt
      repeat (first | refine gw ?_ | (refine ks ?_; intro w hM))
      have ew : IntKind.i64.wrap ((x.toNat / 2 ^ (7 - I % 8) : Nat) : Int) = ((x.toNat / 2 ^ (7 - I % 8) : Nat) : Int) := (fun (q : Nat) (h : q < 256) => (wrap_rng (by exact rfl) (by omega) (by omega) : IntKind.i64.wrap (q : Int) = (q : Int))) _ hsm
      rw [es, ew]
      (try ((with_reducible apply is_gd); first | refine gt ?_ | refine gf ?_ | refine gu ?_)); refine wl_val (r_andN (a := x.toNat / 2 ^ (7 - I % 8)) (b := 1) (.inr rfl) rfl rfl (.inl (by omega)) (.inl (by omega))) ?_
      repeat (first | refine gw ?_ | (refine ks ?_; intro w hM))
      refine out1 rfl ⟨?_, hM.ch⟩
      rw [Nat.and_one_is_mod]
      unfold bitN
      rw [List.getD_eq_getElem?_getD, hx]
      rfl
end Go.Proofs.YtkdbinchlpdkmaaDoor
set_option linter.unusedVariables false
set_option linter.unusedSimpArgs false
namespace Go.Proofs.YtkdbinchlpdkmaaDoor
open Go Go.RowKit Go.Proofs.E
attribute [local irreducible] Go.wpList Go.Code.wp Go.Proofs.E.exec Go.Proofs.E.wpLexG
theorem tnothing_any (w0 : World) (hK : Laid w0) : Calls Tryd.prog 112 #[] w0 (Ret fun u w' => u = hv (shaH [5]).1 ∧ Ch [] w0 w') := by
  have hM := Mem.start w0
  refine enter [undef, undef] Tryd.func112 rfl rfl ?_
  repeat (first | refine gw ?_ | (refine ks ?_; intro w hM))
  refine kal hM (fun w b2 hM => ?_)
  repeat (first | refine gw ?_ | (refine ks ?_; intro w hM))
  refine kca hM ((fun q v ls w h1 => of_any q v ls w h1) 5 (.slice none 0 0) [] w (hK.ch hM.ch (by simp)) (Ty.Rd.nil _ _ _ _ _) (by decide)) (X := hv (shaH [5]).1) (fun w hM => ?_)
  refine kstw (vs := (shaH [5]).1.map u8v) hM (fun w hM => ?_)
  repeat (first | refine gw ?_ | (refine ks ?_; intro w hM))
  exact koc hM rfl ⟨rfl, hM.ch⟩
theorem rnothing_any (w0 : World) (hK : True) : Calls Tryd.prog 67 #[] w0 (Ret fun u w' => u = hv (shaH [5]).1 ∧ Ch [] w0 w') := by
  have hM := Mem.start w0
  refine enter [undef, undef] Tryd.func67 rfl rfl ?_
  repeat (first | refine gw ?_ | (refine ks ?_; intro w hM))
  refine kal hM (fun w b2 hM => ?_)
  repeat (first | refine gw ?_ | (refine ks ?_; intro w hM))
  refine kca hM ((fun q v ls w (_ : True) => rof_any q v ls w) 5 (.slice none 0 0) [] w (hK) (Ty.Rd.nil _ _ _ _ _) (by decide)) (X := hv (shaH [5]).1) (fun w hM => ?_)
  refine kstw (vs := (shaH [5]).1.map u8v) hM (fun w hM => ?_)
  repeat (first | refine gw ?_ | (refine ks ?_; intro w hM))
  exact koc hM rfl ⟨rfl, hM.ch⟩
end Go.Proofs.YtkdbinchlpdkmaaDoor
set_option linter.unusedVariables false
set_option linter.unusedSimpArgs false
namespace Go.Proofs.YtkdbinchlpdkmaaDoor
open Go Go.RowKit Go.Proofs.E
attribute [local irreducible] Go.wpList Go.Code.wp Go.Proofs.E.exec Go.Proofs.E.wpLexG
@[simp] theorem hs_len (a : Hs) : a.1.length = 32 := a.2
@[simp] theorem hs_take (a : Hs) : (a.1.map u8v).take 32 = a.1.map u8v := List.take_of_length_le (by simp)
@[simp] theorem hs_takeA (a : Hs) (r : List Value) : (a.1.map u8v ++ r).take 32 = a.1.map u8v := List.take_left' (by simp)
@[simp] theorem hs_dropA (a : Hs) (r : List Value) : (a.1.map u8v ++ r).drop 32 = r := List.drop_left' (by simp)
theorem hs_get (a : Hs) (x : Value) (r : List Value) : (a.1.map u8v ++ x :: r)[32]? = some x := by
  rw [List.getElem?_append_right (by simp)]
  simp
theorem hs_get1 (a : Hs) (x y : Value) (r : List Value) : (a.1.map u8v ++ x :: y :: r)[33]? = some y := by
  rw [List.getElem?_append_right (by simp)]
  simp
theorem hs_takeB (a b : Hs) : ((b.1.map u8v ++ a.1.map u8v).drop 32).take 32 = a.1.map u8v := by simp
theorem kldh {P : Program} {ops : Array Oper} {Q : Exit → Act → World → Prop} {rest : List Oper} {l l' : List Value} {O : List Nat} {w0 w : World} {L L' : List As} {T : TypeId} {pos : String} {after : Array Edge} {d : Nat} {x : Operand} {E E' : TypeId} {b o by_ : Nat} {cs : List Value} {z : Value} {a : Hs} [hr : Row P E] [hi : Inf P E z 32 by_] (hM : Mem O w0 w L) (h : wpList P ops Q rest (fr l') w)
    (hx : ev l x = .pointer (some ⟨b, o, none⟩) := by exact rfl) (hp : Pick L (.cell b cs E') L' := by (repeat (first | exact Go.Proofs.E.Pick.here | apply Go.Proofs.E.Pick.there))) (hd : (cs.drop o).take 32 = a.1.map u8v := by first | exact hs_take _ | exact hs_takeA _ _ | exact hs_takeB _ _)
    (hl : l.set d (.agg (a.1.map u8v).toArray) = l' := by first | (dsimp only [List.set, Go.Proofs.E.set1, Go.Proofs.E.ev, Go.Proofs.E.nth]; done) | exact rfl) :
    wpList P ops Q ({ dst := some d, op := .load E x, type := T, pos := pos, after := after, guard := none } :: rest) (fr l) w := by
  subst hl
  exact kldp (a.1.map u8v) hM hd h hx hp (by simp) rfl
theorem gh {G H : Prop} (h : H) (s : Hd H → G := by
  intro h
  (first | ((with_reducible apply is_ld); first | refine kld hM ?_ | refine kldw hM ?_ | refine kle hM ?_ | refine klew hM ?_ | refine kldh hM ?_ | refine kld hM ?_ (hv := by first | exact hs_get _ _ _ | exact hs_get1 _ _ _ _)) | ((with_reducible apply is_st); refine su ?_) | ((with_reducible apply is_gd); first | refine gt ?_ | refine gf ?_ | refine gu ?_) | ((with_reducible apply is_en); refine en ?_) | (with_reducible apply c_region) | refine ws ?_ | refine x_block_other (by decide) ?_ | fail)
  repeat (first | ((with_reducible apply is_ld); first | refine kld hM ?_ | refine kldw hM ?_ | refine kle hM ?_ | refine klew hM ?_ | refine kldh hM ?_ | refine kld hM ?_ (hv := by first | exact hs_get _ _ _ | exact hs_get1 _ _ _ _)) | ((with_reducible apply is_st); refine su ?_) | ((with_reducible apply is_gd); first | refine gt ?_ | refine gf ?_ | refine gu ?_) | ((with_reducible apply is_en); refine en ?_) | (with_reducible apply c_region) | refine ws ?_ | refine x_block_other (by decide) ?_)
  exact h.out) : G := s ⟨h⟩
theorem rof3 {w : World} {v1 v2 : SlV} {a b : List UInt8} (h1 : tU8.Rd [] w (slv v1) a) (h2 : tU8.Rd [] w (slv v2) b) : ∀ p ∈ [(v1, a), (v2, b)], tU8.Rd [] w (slv p.1) p.2 := fun p hp => by
  simp only [List.mem_cons, List.not_mem_nil, or_false] at hp
  rcases hp with rfl | rfl
  · exact h1
  · exact h2
theorem rof33 {w : World} {v1 v2 v3 : SlV} {a b c : List UInt8} (h1 : tU8.Rd [] w (slv v1) a) (h2 : tU8.Rd [] w (slv v2) b) (h3 : tU8.Rd [] w (slv v3) c) : ∀ p ∈ [(v1, a), (v2, b), (v3, c)], tU8.Rd [] w (slv p.1) p.2 := fun p hp => by
  simp only [List.mem_cons, List.not_mem_nil, or_false] at hp
  rcases hp with rfl | rfl | rfl
  · exact h1
  · exact h2
  · exact h3
def itemH (k v : Hs) : Hs := shaH (3 :: (k.1 ++ v.1))
def forkH (bit : Int) (a b : Hs) : Hs := shaH (4 :: UInt8.ofNat bit.toNat :: (a.1 ++ b.1))
set_option maxHeartbeats 4000000 in
theorem titem_any (k v : Hs) (w0 : World) (hK : Laid w0) : Calls Tryd.prog 113 #[hv k.1, hv v.1] w0 (Ret fun u w' => u = hv (itemH k v).1 ∧ Ch [] w0 w') := by
  have hM := Mem.start w0
  refine enter [hv k.1, hv v.1, undef, undef, undef, undef, undef, undef, undef] Tryd.func113 rfl rfl ?_
  repeat (first | refine gw ?_ | (refine ks ?_; intro w hM))
  refine kbx hM (fun w b2 hM => ?_)
  refine kbx hM (fun w b3 hM => ?_)
  refine kal hM (fun w b4 hM => ?_)
  have hM : Mem [] w0 w [.cell b4 ((List.replicate 32 (0 : UInt8)).map u8v) 30, .cell b3 (v.1.map u8v) 30, .cell b2 (k.1.map u8v) 30] := hM
  repeat (first | refine gw ?_ | (refine ks ?_; intro w hM))
  refine kdrl 4 hM (by kernel_rfl) (by kernel_rfl) (by kernel_rfl) (fun w hM => ?_)
  refine wg_val (fun _ _ => r_cut_arr0 rfl) ?_
  refine wg_val (fun _ _ => r_cut_arr0 rfl) ?_
  refine lastg rfl (by kernel_rfl) (fun w hc => ?_)
  have hM := hM.call hc
  refine kbsC (en := eSl) (vs := [slv (some ⟨b2, 0, none⟩, 32, 32), slv (some ⟨b3, 0, none⟩, 32, 32)]) [(some ⟨b2, 0, none⟩, 32, 32), (some ⟨b3, 0, none⟩, 32, 32)] hM (fun w b60 hc hM => ?_)
  refine x_mid rfl hc ?_
  refine lastg rfl (by kernel_rfl) (fun w hc => ?_)
  have hM := hM.call hc
  have hRb := hM.rows8 (ps := [((some ⟨b2, 0, none⟩, 32, 32), k.1), ((some ⟨b3, 0, none⟩, 32, 32), v.1)]) (by (repeat constructor)) (rof3 (hM.cell8 (b := b2) (o := 0) (by (repeat constructor)) (by simp) k.2) (hM.cell8 (b := b3) (o := 0) (by (repeat constructor)) (by simp) v.2))
  have hof := of_any 3 _ _ w (hK.ch hM.ch (by simp)) hRb (by simp)
  rw [show shaOf (3 :: (List.map (fun p : SlV × List UInt8 => p.2) [((some ⟨b2, 0, none⟩, 32, 32), k.1), ((some ⟨b3, 0, none⟩, 32, 32), v.1)]).flatten) = (itemH k v).1 by simp [itemH, shaH]] at hof
  refine ca hof ?_
  rintro _ w2 ⟨rfl, hc2⟩
  have hM := hM.call hc2
  refine x_mid rfl hc2 ?_
  refine lastg rfl (by kernel_rfl) (fun w hc => ?_)
  have hM := hM.call hc
  refine kstw (vs := (itemH k v).1.map u8v) hM (fun w hM => ?_)
  refine x_late rfl rfl ?_
  (try refine wkg ?_)
  (intro w hc; have hM := hM.call hc)
  repeat (first | refine gw ?_ | (refine ks ?_; intro w hM))
  exact koc hM rfl ⟨rfl, hM.ch⟩
set_option maxHeartbeats 4000000 in
theorem ritem_any (k v : Hs) (w0 : World) (hK : True) : Calls Tryd.prog 68 #[hv k.1, hv v.1] w0 (Ret fun u w' => u = hv (itemH k v).1 ∧ Ch [] w0 w') := by
  have hM := Mem.start w0
  refine enter [hv k.1, hv v.1, undef, undef, undef, undef, undef, undef, undef] Tryd.func68 rfl rfl ?_
  repeat (first | refine gw ?_ | (refine ks ?_; intro w hM))
  refine kbx hM (fun w b2 hM => ?_)
  refine kbx hM (fun w b3 hM => ?_)
  refine kal hM (fun w b4 hM => ?_)
  have hM : Mem [] w0 w [.cell b4 ((List.replicate 32 (0 : UInt8)).map u8v) 30, .cell b3 (v.1.map u8v) 30, .cell b2 (k.1.map u8v) 30] := hM
  repeat (first | refine gw ?_ | (refine ks ?_; intro w hM))
  refine kdrl 4 hM (by kernel_rfl) (by kernel_rfl) (by kernel_rfl) (fun w hM => ?_)
  refine wg_val (fun _ _ => r_cut_arr0 rfl) ?_
  refine wg_val (fun _ _ => r_cut_arr0 rfl) ?_
  refine lastg rfl (by kernel_rfl) (fun w hc => ?_)
  have hM := hM.call hc
  refine kbsC (en := eSl) (vs := [slv (some ⟨b2, 0, none⟩, 32, 32), slv (some ⟨b3, 0, none⟩, 32, 32)]) [(some ⟨b2, 0, none⟩, 32, 32), (some ⟨b3, 0, none⟩, 32, 32)] hM (fun w b60 hc hM => ?_)
  refine x_mid rfl hc ?_
  refine lastg rfl (by kernel_rfl) (fun w hc => ?_)
  have hM := hM.call hc
  have hRb := hM.rows8 (ps := [((some ⟨b2, 0, none⟩, 32, 32), k.1), ((some ⟨b3, 0, none⟩, 32, 32), v.1)]) (by (repeat constructor)) (rof3 (hM.cell8 (b := b2) (o := 0) (by (repeat constructor)) (by simp) k.2) (hM.cell8 (b := b3) (o := 0) (by (repeat constructor)) (by simp) v.2))
  have hof := (fun q v ls w (_ : True) => rof_any q v ls w) 3 _ _ w hK hRb (by simp)
  rw [show shaOf (3 :: (List.map (fun p : SlV × List UInt8 => p.2) [((some ⟨b2, 0, none⟩, 32, 32), k.1), ((some ⟨b3, 0, none⟩, 32, 32), v.1)]).flatten) = (itemH k v).1 by simp [itemH, shaH]] at hof
  refine ca hof ?_
  rintro _ w2 ⟨rfl, hc2⟩
  have hM := hM.call hc2
  refine x_mid rfl hc2 ?_
  refine lastg rfl (by kernel_rfl) (fun w hc => ?_)
  have hM := hM.call hc
  refine kstw (vs := (itemH k v).1.map u8v) hM (fun w hM => ?_)
  refine x_late rfl rfl ?_
  (try refine wkg ?_)
  (intro w hc; have hM := hM.call hc)
  repeat (first | refine gw ?_ | (refine ks ?_; intro w hM))
  exact koc hM rfl ⟨rfl, hM.ch⟩
set_option maxHeartbeats 4000000 in
theorem tfork_any (i : Int) (h0 : 0 ≤ i) (h1 : i ≤ 255) (k v : Hs) (w0 : World) (hK : Laid w0) : Calls Tryd.prog 114 #[.int .i64 i, hv k.1, hv v.1] w0 (Ret fun u w' => u = hv (forkH i k v).1 ∧ Ch [] w0 w') := by
  have hM := Mem.start w0
  obtain ⟨I, rfl⟩ := Int.eq_ofNat_of_zero_le h0
  have hu : u8v (UInt8.ofNat I) = .int .u8 (I : Int) := by
    unfold u8v
    rw [UInt8.toNat_ofNat', Nat.mod_eq_of_lt (by omega)]
  refine enter [.int .i64 (I : Int), hv k.1, hv v.1, undef, undef, undef, undef, undef, undef, undef, undef, undef, undef, undef] Tryd.func114 rfl rfl ?_
  repeat (first | refine gw ?_ | (refine ks ?_; intro w hM))
  refine kbx hM (fun w b2 hM => ?_)
  refine kbx hM (fun w b3 hM => ?_)
  refine kal hM (fun w b4 hM => ?_)
  have hM : Mem [] w0 w [.cell b4 ((List.replicate 32 (0 : UInt8)).map u8v) 30, .cell b3 (v.1.map u8v) 30, .cell b2 (k.1.map u8v) 30] := hM
  repeat (first | refine gw ?_ | (refine ks ?_; intro w hM))
  refine c_ordY ([], []) [b4] (by kernel_rfl) (by kernel_rfl) (by kernel_rfl) (fun w hc hs => ?_)
  have hM := hM.call hc
  (first | refine yn 0 rfl ?_ | refine ynt 0 rfl ?_ | refine ynff 0 rfl ?_); (first | refine yn 1 rfl ?_ | refine ynt 1 rfl ?_ | refine ynff 1 rfl ?_)
  rw [← hu]
  refine ynp 3 rfl (by kernel_rfl) (by kernel_rfl) (fun _ => r_cut_arr0 rfl) rfl ?_
  refine ynp 4 rfl (by kernel_rfl) (by kernel_rfl) (fun _ => r_cut_arr0 rfl) rfl ?_
  refine yk1 2 hM (by kernel_rfl) rfl (fun w h0 hM => ?_)
  refine kbsC (en := eU8) (vs := [u8v (UInt8.ofNat I)]) [UInt8.ofNat I] hM (fun w b59 hc hM => ?_) (hm := by intro v hv; simp at hv; subst hv; rfl)
  refine x_wy (.inl (hc.gy h0)) rfl ?_
  refine yk1 5 hM (by kernel_rfl) rfl (fun w h0 hM => ?_)
  refine kbsC (en := eSl) (vs := [slv (some ⟨b59, 0, none⟩, 1, 1), slv (some ⟨b2, 0, none⟩, 32, 32), slv (some ⟨b3, 0, none⟩, 32, 32)]) [(some ⟨b59, 0, none⟩, 1, 1), (some ⟨b2, 0, none⟩, 32, 32), (some ⟨b3, 0, none⟩, 32, 32)] hM (fun w b60 hc hM => ?_)
  refine x_wy (.inl (hc.gy h0)) rfl ?_
  refine yk1 6 hM (by kernel_rfl) rfl (fun w h0 hM => ?_)
  have hRb := hM.rows8 (ps := [((some ⟨b59, 0, none⟩, 1, 1), [UInt8.ofNat I]), ((some ⟨b2, 0, none⟩, 32, 32), k.1), ((some ⟨b3, 0, none⟩, 32, 32), v.1)]) (by (repeat constructor)) (rof33 (hM.rowRdO (en := eU8) (by (repeat constructor))) (hM.cell8 (b := b2) (o := 0) (by (repeat constructor)) (by simp) k.2) (hM.cell8 (b := b3) (o := 0) (by (repeat constructor)) (by simp) v.2))
  have hof := of_any 4 _ _ w (hK.ch hM.ch (by simp)) hRb (by simp)
  rw [show shaOf (4 :: (List.map (fun p : SlV × List UInt8 => p.2) [((some ⟨b59, 0, none⟩, 1, 1), [UInt8.ofNat I]), ((some ⟨b2, 0, none⟩, 32, 32), k.1), ((some ⟨b3, 0, none⟩, 32, 32), v.1)]).flatten) = (forkH (I : Int) k v).1 by simp [forkH, shaH]] at hof
  refine ca hof ?_
  rintro _ w2 ⟨rfl, hc2⟩
  have hM := hM.call hc2
  refine x_wy (.inl (hc2.gy h0)) rfl ?_
  refine yst (n := 32) (vs := (forkH (I : Int) k v).1.map u8v) 7 (by kernel_rfl) rfl (hM.blk (b := b4) (by (repeat constructor))) (.inr (by simp)) rfl rfl (by simp) (by simp) one_u8 (fun w hB hc => ?_)
  have hM := hM.cellSet hB hc
  refine wy_done (by kernel_rfl) (fun w hc => ?_)
  have hM := hM.call hc
  repeat (first | refine gw ?_ | (refine ks ?_; intro w hM))
  exact koc hM rfl ⟨rfl, hM.ch⟩
set_option maxHeartbeats 4000000 in
theorem rfork_any (i : Int) (h0 : 0 ≤ i) (h1 : i ≤ 255) (k v : Hs) (w0 : World) (hK : True) : Calls Tryd.prog 69 #[.int .i64 i, hv k.1, hv v.1] w0 (Ret fun u w' => u = hv (forkH i k v).1 ∧ Ch [] w0 w') := by
  have hM := Mem.start w0
  obtain ⟨I, rfl⟩ := Int.eq_ofNat_of_zero_le h0
  have hu : u8v (UInt8.ofNat I) = .int .u8 (I : Int) := by
    unfold u8v
    rw [UInt8.toNat_ofNat', Nat.mod_eq_of_lt (by omega)]
  refine enter [.int .i64 (I : Int), hv k.1, hv v.1, undef, undef, undef, undef, undef, undef, undef, undef, undef, undef, undef] Tryd.func69 rfl rfl ?_
  repeat (first | refine gw ?_ | (refine ks ?_; intro w hM))
  refine kbx hM (fun w b2 hM => ?_)
  refine kbx hM (fun w b3 hM => ?_)
  refine kal hM (fun w b4 hM => ?_)
  have hM : Mem [] w0 w [.cell b4 ((List.replicate 32 (0 : UInt8)).map u8v) 30, .cell b3 (v.1.map u8v) 30, .cell b2 (k.1.map u8v) 30] := hM
  repeat (first | refine gw ?_ | (refine ks ?_; intro w hM))
  refine c_ordY ([], []) [b4] (by kernel_rfl) (by kernel_rfl) (by kernel_rfl) (fun w hc hs => ?_)
  have hM := hM.call hc
  (first | refine yn 0 rfl ?_ | refine ynt 0 rfl ?_ | refine ynff 0 rfl ?_); (first | refine yn 1 rfl ?_ | refine ynt 1 rfl ?_ | refine ynff 1 rfl ?_)
  rw [← hu]
  refine ynp 3 rfl (by kernel_rfl) (by kernel_rfl) (fun _ => r_cut_arr0 rfl) rfl ?_
  refine ynp 4 rfl (by kernel_rfl) (by kernel_rfl) (fun _ => r_cut_arr0 rfl) rfl ?_
  refine yk1 2 hM (by kernel_rfl) rfl (fun w h0 hM => ?_)
  refine kbsC (en := eU8) (vs := [u8v (UInt8.ofNat I)]) [UInt8.ofNat I] hM (fun w b59 hc hM => ?_) (hm := by intro v hv; simp at hv; subst hv; rfl)
  refine x_wy (.inl (hc.gy h0)) rfl ?_
  refine yk1 5 hM (by kernel_rfl) rfl (fun w h0 hM => ?_)
  refine kbsC (en := eSl) (vs := [slv (some ⟨b59, 0, none⟩, 1, 1), slv (some ⟨b2, 0, none⟩, 32, 32), slv (some ⟨b3, 0, none⟩, 32, 32)]) [(some ⟨b59, 0, none⟩, 1, 1), (some ⟨b2, 0, none⟩, 32, 32), (some ⟨b3, 0, none⟩, 32, 32)] hM (fun w b60 hc hM => ?_)
  refine x_wy (.inl (hc.gy h0)) rfl ?_
  refine yk1 6 hM (by kernel_rfl) rfl (fun w h0 hM => ?_)
  have hRb := hM.rows8 (ps := [((some ⟨b59, 0, none⟩, 1, 1), [UInt8.ofNat I]), ((some ⟨b2, 0, none⟩, 32, 32), k.1), ((some ⟨b3, 0, none⟩, 32, 32), v.1)]) (by (repeat constructor)) (rof33 (hM.rowRdO (en := eU8) (by (repeat constructor))) (hM.cell8 (b := b2) (o := 0) (by (repeat constructor)) (by simp) k.2) (hM.cell8 (b := b3) (o := 0) (by (repeat constructor)) (by simp) v.2))
  have hof := (fun q v ls w (_ : True) => rof_any q v ls w) 4 _ _ w hK hRb (by simp)
  rw [show shaOf (4 :: (List.map (fun p : SlV × List UInt8 => p.2) [((some ⟨b59, 0, none⟩, 1, 1), [UInt8.ofNat I]), ((some ⟨b2, 0, none⟩, 32, 32), k.1), ((some ⟨b3, 0, none⟩, 32, 32), v.1)]).flatten) = (forkH (I : Int) k v).1 by simp [forkH, shaH]] at hof
  refine ca hof ?_
  rintro _ w2 ⟨rfl, hc2⟩
  have hM := hM.call hc2
  refine x_wy (.inl (hc2.gy h0)) rfl ?_
  refine yst (n := 32) (vs := (forkH (I : Int) k v).1.map u8v) 7 (by kernel_rfl) rfl (hM.blk (b := b4) (by (repeat constructor))) (.inr (by simp)) rfl rfl (by simp) (by simp) one_u8 (fun w hB hc => ?_)
  have hM := hM.cellSet hB hc
  refine wy_done (by kernel_rfl) (fun w hc => ?_)
  have hM := hM.call hc
  repeat (first | refine gw ?_ | (refine ks ?_; intro w hM))
  exact koc hM rfl ⟨rfl, hM.ch⟩
end Go.Proofs.YtkdbinchlpdkmaaDoor
set_option linter.unusedVariables false
set_option linter.unusedSimpArgs false
namespace Go.Proofs.YtkdbinchlpdkmaaDoor
open Go Go.RowKit Go.Proofs.E
attribute [local irreducible] Go.wpList Go.Code.wp Go.Proofs.E.exec Go.Proofs.E.wpLexG
abbrev eSt : En (Int × Hs) := { f := fun s => .int .i64 s.1 :: s.2.1.map u8v, n := 33, hl := fun s => by simp, h1 := fun s u hu => (List.mem_cons.1 hu).elim (fun h => h ▸ rfl) (fun h => one_u8 u h) }
abbrev pC (sp : Value) (lf : Bool) (k v : Hs) : List Value := sp :: .bool lf :: (k.1.map u8v ++ v.1.map u8v)
def goodSt : Int → List (Int × Hs) → Bool
  | _, [] => true
  | last, s :: r => decide (last < s.1) && decide (s.1 ≤ 255) && goodSt s.1 r
def endB (n : Nat) (k v : Hs) : Bool := decide (n = 0) && (decide (k.1 = zeroH.1) && decide (v.1 = zeroH.1))
def goodP (st : List (Int × Hs)) (lf : Bool) (k v : Hs) : Bool := goodSt (-1) st && (lf || endB st.length k v)
theorem end_cmp (n : Nat) (k v : Hs) : CmpFs Tryd.prog 9999 (.int .i64 (n : Int) :: (k.1.map u8v ++ v.1.map u8v)) (.int .i64 0 :: (zeroH.1.map u8v ++ zeroH.1.map u8v)) (Tryd.prog.fieldsOf 219).toList (endB n k v) := by
  have e : endB n k v = (((n : Int) == 0) && (decide (k.1 = zeroH.1) && (decide (v.1 = zeroH.1) && true))) := by
    unfold endB
    rw [Bool.and_true]
    congr 1
    rw [Bool.eq_iff_iff]
    simp
  rw [e]
  simp only [Program.fieldsOf, Tryd.underlying219]
  exact .cons (by decide) (cmp_int (t := 3)) rfl rfl (.cons (by decide) (cmp_arr8 (t := 30) (e := 5) k.2 zeroH.2) (by simp) (by simp) (.cons (by decide) (cmp_arr8 (t := 30) (e := 5) v.2 zeroH.2) (by simp) (by simp) .nil))
set_option maxHeartbeats 8000000 in
theorem mgood_any (sp : Value) (lf : Bool) (k v : Hs) (st : List (Int × Hs)) (w0 : World) (hR : (Ty.enc eSt).Rd [] w0 sp st) :
    Calls Tryd.prog 111 #[.agg (pC sp lf k v).toArray] w0 (Ret fun u w' => u = .bool (goodP st lf k v) ∧ Ch [] w0 w') := by
  have hM := Mem.start w0
  have hle := hR.le
  obtain ⟨A, c, rfl⟩ := hR.form
  refine enter [.agg (pC (.slice A st.length c) lf k v).toArray, undef, undef, undef, undef, undef, undef, undef, undef, undef, undef, undef, undef, undef, undef, undef, undef, undef, undef, undef, undef, undef, undef, undef, undef, undef, undef, undef, undef, undef, undef, undef, undef, undef, undef, undef, undef, undef, undef] Tryd.func111 rfl rfl ?_
  repeat (first | refine gw ?_ | (refine ks ?_; intro w hM))
  refine kbx hM (fun w b1 hM => ?_)
  have hM : Mem [] w0 w [.cell b1 (pC (.slice A st.length c) lf k v) 49] := hM
  repeat (first | refine gw ?_ | (refine ks ?_; intro w hM))
  
  refine c_loop (fun n l w => ∃ (j : Nat) (last : Int), (∃ jj : Nat → Value, l = [jj 0, .pointer (some ⟨b1, 0, none⟩), .bool false, .int .i64 last, jj 4, jj 5, jj 6, .slice A st.length c, .int .i64 (st.length : Int), .int .i64 (j : Int), jj 10, jj 11, jj 12, jj 13, jj 14, jj 15, jj 16, jj 17, jj 18, jj 19, jj 20, jj 21, jj 22, jj 23, jj 24, jj 25, jj 26, jj 27, jj 28, jj 29, jj 30, jj 31, jj 32, jj 33, jj 34, jj 35, jj 36, jj 37, jj 38]) ∧ n + j = st.length ∧ Mem [] w0 w [.cell b1 (pC (.slice A st.length c) lf k v) 49] ∧ goodSt (-1) st = goodSt last (st.drop j)) st.length
    ⟨0, -1, exj rfl, rfl, hM, rfl⟩ ?_
  clear hM
  rintro n l w ⟨j, last, ⟨jj, rfl⟩, hnj, hM, hf⟩
  repeat (first | refine gw ?_ | (refine ks ?_; intro w hM))
  refine c_cond rfl (fun hj => ?_) (fun hj => ?_)
  · repeat (first | refine gw ?_ | (refine ks ?_; intro w hM))
    refine kix hR (fun b o x hx hA => ?_)
    rw [Int.toNat_natCast] at hx
    have hd : st.drop j = x :: st.drop (j + 1) := by
      obtain ⟨hlt, he⟩ := List.getElem?_eq_some_iff.1 hx
      rw [List.drop_eq_getElem_cons hlt, he]
    rw [hd, goodSt] at hf
    refine katr hM hA ?_
    refine kal hM (fun w b5 hM => ?_)
    refine kstw (vs := eSt.f x) hM (fun w hM => ?_) (h1 := eSt.h1 x)
    repeat (first | refine gw ?_ | (refine ks ?_; intro w hM))
    by_cases h1 : x.1 ≤ last
    · rw [decide_eq_true h1]
      repeat (first | refine gw ?_ | (refine ks ?_; intro w hM))
      refine c_condb rfl (fun _ => ?_) (fun h => by cases h)
      repeat (first | refine gw ?_ | (refine ks ?_; intro w hM))
      refine out1 rfl ⟨?_, hM.ch⟩
      unfold goodP
      rw [hf, decide_eq_false (by omega : ¬ last < x.1)]
      rfl
    · rw [decide_eq_false h1]
      repeat (first | refine gw ?_ | (refine ks ?_; intro w hM))
      by_cases h2 : x.1 > 255
      · rw [decide_eq_true h2]
        repeat (first | refine gw ?_ | (refine ks ?_; intro w hM))
        refine c_condb rfl (fun _ => ?_) (fun h => by cases h)
        repeat (first | refine gw ?_ | (refine ks ?_; intro w hM))
        refine out1 rfl ⟨?_, hM.ch⟩
        unfold goodP
        rw [hf, decide_eq_false (by omega : ¬ x.1 ≤ 255), Bool.and_false]
        rfl
      · rw [decide_eq_false h2]
        repeat (first | refine gw ?_ | (refine ks ?_; intro w hM))
        refine c_condb rfl (fun h => by cases h) (fun _ => ?_)
        repeat (first | refine gw ?_ | (refine ks ?_; intro w hM))
        refine x_goes (n - 1) rfl (by omega) ⟨j + 1, x.1, exj rfl, by omega, hM.sub (by (repeat constructor)), ?_⟩
        rw [hf, decide_eq_true (by omega : last < x.1), decide_eq_true (by omega : x.1 ≤ 255)]
        rfl
  · rw [List.drop_eq_nil_of_le (by omega)] at hf
    have hg : goodP st lf k v = (lf || endB st.length k v) := by
      unfold goodP
      rw [hf]
      rfl
    rw [hg]
    cases lf with
    | true =>
      repeat (first | refine gw ?_ | (refine ks ?_; intro w hM))
      exact out1 rfl ⟨rfl, hM.ch⟩
    | false =>
      repeat (first | refine gh ?_ | (refine ks ?_; intro w hM))
      (try ((with_reducible apply is_gd); first | refine gt ?_ | refine gf ?_ | refine gu ?_)); refine wl_val (r_bldS (vs := [(0, .int .i64 (st.length : Int)), (1, hv k.1), (2, hv v.1)]) (.int .i64 (st.length : Int) :: (k.1.map u8v ++ v.1.map u8v)) (z := .int .i64 0 :: List.replicate 64 (.int .u8 0)) (place := (#[(0, 1), (1, 32), (33, 32)][·]?)) (by intro ps; kernel_rfl) rfl (.cons rfl rfl (by simp) (.cons rfl (by simp [hv, Value.cells]) (by simp [spl, Value.cells]) (.cons rfl (by simp [hv, Value.cells]) (by simp [spl, hv, Value.cells]) (.nil (by simp [spl, hv, Value.cells])))))) ?_
      repeat (first | refine gh ?_ | (refine ks ?_; intro w hM))
      (try ((with_reducible apply is_gd); first | refine gt ?_ | refine gf ?_ | refine gu ?_)); refine wl_val (r_bldS (.int .i64 0 :: (zeroH.1.map u8v ++ zeroH.1.map u8v)) (z := .int .i64 0 :: List.replicate 64 (.int .u8 0)) (place := (#[(0, 1), (1, 32), (33, 32)][·]?)) (by intro ps; kernel_rfl) rfl (.nil rfl)) ?_
      (try ((with_reducible apply is_gd); first | refine gt ?_ | refine gf ?_ | refine gu ?_)); refine wl_val (r_eqlS (by kernel_rfl) (by kernel_rfl) (by kernel_rfl) rfl rfl (end_cmp st.length k v)) ?_
      repeat (first | refine gh ?_ | (refine ks ?_; intro w hM))
      exact out1 rfl ⟨rfl, hM.ch⟩
end Go.Proofs.YtkdbinchlpdkmaaDoor
set_option linter.unusedVariables false
set_option linter.unusedSimpArgs false
namespace Go.Proofs.YtkdbinchlpdkmaaDoor
open Go Go.RowKit Go.Proofs.E
attribute [local irreducible] Go.wpList Go.Code.wp Go.Proofs.E.exec Go.Proofs.E.wpLexG
theorem zr_get {α : Type} {xs : List α} {i : Nat} {x : α} (hi : i < xs.length) (hx : xs[xs.length - 1 - i]? = some x) : xs.zipIdx.reverse[i]? = some (x, xs.length - 1 - i) := by
  rw [List.getElem?_reverse (by simpa using hi), List.length_zipIdx, List.getElem?_zipIdx, hx]
  simp
theorem zr_fst {α : Type} (xs : List α) : xs.zipIdx.reverse.map (·.1) = xs.reverse := by
  rw [List.map_reverse]
  simp
theorem zr_pre {α : Type} {xs : List α} {pre : List (α × Nat)} {x : α × Nat} (h : (pre ++ [x]) <+: xs.zipIdx.reverse) : xs.reverse.drop pre.length = x.1 :: xs.reverse.drop (pre.length + 1) ∧ x.1 ∈ xs := by
  obtain ⟨t, ht⟩ := h
  have e : xs.reverse = pre.map (·.1) ++ (x.1 :: t.map (·.1)) := by
    rw [← zr_fst, ← ht]
    simp
  have hl : (pre.map (·.1)).length = pre.length := List.length_map ..
  refine ⟨?_, ?_⟩
  · rw [e, List.drop_append_of_le_length (by omega), List.drop_of_length_le (by omega), List.nil_append, List.drop_append, List.drop_of_length_le (by omega), hl, show pre.length + 1 - pre.length = 1 by omega]
    rfl
  · have : x.1 ∈ xs.reverse := by rw [e]; simp
    simpa using this
theorem row33 (x : Int × Hs) : (eSt.f x).length = 33 := eSt.hl x
set_option maxHeartbeats 8000000 in
theorem back_seq {st : List (Int × Hs)} {v : Value} {w0 : World} (b1 : Nat) (h1 : (Ty.enc eSt).Rd [] w0 v st) :
    SeqM Tryd.prog 9 115 #[.pointer (some ⟨b1, 0, none⟩)] (fun x : (Int × Hs) × Nat => #[.int .i64 (x.2 : Int), .agg (eSt.f x.1).toArray]) st.zipIdx.reverse [] w0 [.cell b1 [v] 47] := by
  intro r Inv Stp w La hM0 hInv hY
  refine callsIn_wide.2 ?_
  have hM := hM0.perm List.perm_append_comm
  suffices h : Calls Tryd.prog 115 #[.func (.yield r) #[] #[], .pointer (some ⟨b1, 0, none⟩)] w (Ret fun _ W' => ∃ La', (Inv st.zipIdx.reverse La' ∨ ∃ pre, Stp pre La') ∧ Mem [] w0 W' (La' ++ [.cell b1 [v] 47])) from
    h.mono fun e w ⟨v, he, h⟩ => ⟨⟨v, he⟩, h⟩
  have hle1 := h1.le
  have hzl : st.zipIdx.reverse.length = st.length := by simp
  obtain ⟨A1, c1, rfl⟩ := h1.form
  refine enter [.func (.yield r) #[] #[], .pointer (some ⟨b1, 0, none⟩), undef, undef, undef, undef, undef, undef, undef, undef, undef, undef, undef, undef, undef, undef, undef, undef, undef] Tryd.func115 rfl rfl ?_
  simp only [List.cons_append, List.nil_append] at hM
  repeat (first | refine gw ?_ | (refine ks ?_; intro w hM))
  
  refine c_loop (fun k l w => ∃ (i : Nat) (La : List As), (∃ jj : Nat → Value, l = [.func (.yield r) #[] #[], .pointer (some ⟨b1, 0, none⟩), jj 2, .int .i64 ((st.length : Int) - 1 - (i : Int)), jj 4, jj 5, jj 6, jj 7, jj 8, jj 9, jj 10, jj 11, jj 12, jj 13, jj 14, jj 15, jj 16, jj 17, jj 18]) ∧ k + i = st.length ∧ Inv (st.zipIdx.reverse.take i) La ∧ Mem [] w0 w (.cell b1 [.slice A1 st.length c1] 47 :: La)) st.length
    ⟨0, La, exj (by rw [show (st.length : Int) - 1 - ((0 : Nat) : Int) = (st.length : Int) - 1 by omega]; rfl), rfl, hInv, hM⟩ ?_
  clear hM hM0 hInv
  rintro k l w ⟨i, La, ⟨jj, rfl⟩, hki, hInv, hM⟩
  repeat (first | refine gw ?_ | (refine ks ?_; intro w hM))
  refine c_cond rfl (fun hi => ?_) (fun hi => ?_)
  · have hiu : i < st.length := by omega
    repeat (first | refine gwb ?_ | (refine ks ?_; intro w hM))
    obtain ⟨b, o, rfl, hat⟩ := rd_at h1 (fun h => by subst h; simp at hiu)
    obtain ⟨x, hx⟩ : ∃ x, st[st.length - 1 - i]? = some x := ⟨_, List.getElem?_eq_getElem (by omega)⟩
    obtain ⟨hb, _, cs, hcs, hrow⟩ := (hat _ _ hx).mv hM.ch (by simp)
    have hcs' : cs = eSt.f x := hcs
    subst hcs'
    have hget := zr_get hiu hx
    have hsn : st.zipIdx.reverse.take (i + 1) = st.zipIdx.reverse.take i ++ [(x, st.length - 1 - i)] := by rw [List.take_add_one, hget]; rfl
    have hyl := hY (st.zipIdx.reverse.take i) (x, st.length - 1 - i) w La _ (by rw [← hsn]; exact List.take_prefix _ _) hInv (hM.perm (List.perm_append_comm (l₁ := [_]) (l₂ := La)))
    simp only [show ((st.length - 1 - i : Nat) : Int) = (st.length : Int) - 1 - (i : Int) by omega] at hyl
    refine (wpIn_wide (n := 9)).1 (wpIn_region_lit ?_)
    refine li_val (r_move _) ?_
    refine li_val (r_move _) ?_
    refine li_val (r_load_one rfl ((hM.blk (b := b1) (by (repeat constructor))).cell rfl)) ?_
    refine li_val (r_move _) ?_
    refine li_val (r_indexAddr rfl rfl (by omega) (by omega)) ?_
    rw [show ((st.length : Int) - 1 - (i : Int)).toNat = st.length - 1 - i by omega]
    refine li_val (r_load_row rfl hrow (row33 x)) ?_
    refine li_yield rfl rfl hyl ?_
    rintro e w2 (⟨rfl, La2, hI2, hM2⟩ | ⟨rfl, La2, hI2, hM2⟩)
    · refine ⟨_, rfl, ?_⟩
      refine li_val (r_not rfl) ?_
      refine wpListIn_nil ?_
      repeat (first | refine gwb ?_ | (refine ks ?_; intro w hM))
      refine c_condb rfl (fun h => by cases h) (fun _ => ?_)
      have hM := hM2.perm List.perm_append_comm
      repeat (first | refine gw ?_ | (refine ks ?_; intro w hM))
      exact x_goes (k - 1) rfl (by omega) ⟨i + 1, La2, exj (by rw [show (st.length : Int) - 1 - ((i + 1 : Nat) : Int) = (st.length : Int) - 1 - (i : Int) - 1 by omega]; rfl), by omega, by rw [hsn]; exact hI2, hM⟩
    · refine ⟨_, rfl, ?_⟩
      refine li_val (r_not rfl) ?_
      refine wpListIn_nil ?_
      repeat (first | refine gwb ?_ | (refine ks ?_; intro w hM))
      refine c_condb rfl (fun _ => ?_) (fun h => by cases h)
      repeat (first | refine gw ?_ | (refine ks ?_; intro w hM))
      exact out0 rfl ⟨La2, .inr ⟨_, hI2⟩, hM2⟩
  · repeat (first | refine gw ?_ | (refine ks ?_; intro w hM))
    rw [List.take_of_length_le (by omega)] at hInv
    exact out0 rfl ⟨La, .inl hInv, hM.perm (List.perm_append_comm (l₁ := [_]) (l₂ := La))⟩
theorem back_any (v : Value) (w0 : World) (hv : v.cells.toList = [v]) : Calls Tryd.prog 65 #[v] w0 (Ret fun u w' => ∃ b1, u = .func (.func 115) #[] #[.pointer (some ⟨b1, 0, none⟩)] ∧ Mem [] w0 w' [.cell b1 [v] 47]) := by
  have hM := Mem.start w0
  refine enter [v, undef, undef, undef] Tryd.func65 rfl rfl ?_
  repeat (first | refine gw ?_ | (refine ks ?_; intro w hM))
  refine kbx (v := v) hM (fun w b1 hM => ?_)
  rw [hv] at hM
  repeat (first | refine gw ?_ | (refine ks ?_; intro w hM))
  (try ((with_reducible apply is_gd); first | refine gt ?_ | refine gf ?_ | refine gu ?_)); refine wl_val (r_makeFunc (cs := [.tmp 1])) ?_
  repeat (first | refine gw ?_ | (refine ks ?_; intro w hM))
  exact out1 rfl ⟨b1, rfl, hM⟩
theorem goodSt_mem : ∀ {st : List (Int × Hs)} {last : Int}, goodSt last st = true → -1 ≤ last → ∀ s ∈ st, 0 ≤ s.1 ∧ s.1 ≤ 255
  | [], _, _, _, s, hs => by cases hs
  | x :: r, last, h, hl, s, hs => by
    simp only [goodSt, Bool.and_eq_true, decide_eq_true_eq] at h
    rcases List.mem_cons.1 hs with rfl | hs
    · omega
    · exact goodSt_mem h.2 (by omega) s hs
def stepUp (k : Hs) (s : Int × Hs) (h : Hs) : Hs := if bitZ k s.1 = 0 then forkH s.1 h s.2 else forkH s.1 s.2 h
def climbUp (k pk : Hs) : List (Int × Hs) → Hs → Option Hs
  | [], h => some h
  | s :: r, h => if bitZ pk s.1 = bitZ k s.1 then climbUp k pk r (stepUp k s h) else none
def climbP (k : Hs) (st : List (Int × Hs)) (lf : Bool) (pk pv : Hs) : Option Hs :=
  if goodP st lf pk pv = true then (if lf = true then climbUp k pk st.reverse (itemH pk pv) else some (shaH [5])) else none
def optT (o : Option Hs) : Value := .tuple #[hv (o.getD zeroH).1, .bool o.isSome]
end Go.Proofs.YtkdbinchlpdkmaaDoor
set_option linter.unusedVariables false
set_option linter.unusedSimpArgs false
namespace Go.Proofs.YtkdbinchlpdkmaaDoor
open Go Go.RowKit Go.Proofs.E
attribute [local irreducible] Go.wpList Go.Code.wp Go.Proofs.E.exec Go.Proofs.E.wpLexG
theorem both0 (a h : Hs) : spl (a.1.map u8v ++ a.1.map u8v) 0 (h.1.map u8v) = h.1.map u8v ++ a.1.map u8v := by simp [spl]
theorem both1 (a h : Hs) : spl (a.1.map u8v ++ a.1.map u8v) 32 (h.1.map u8v) = a.1.map u8v ++ h.1.map u8v := by simp [spl]
theorem bit_two (k : Hs) (i : Int) : bitZ k i = 0 ∨ bitZ k i = 1 := by have := bitZ_lt k i; omega
set_option maxHeartbeats 32000000 in
theorem mclimb_any (k : Hs) (sp : Value) (lf : Bool) (pk pv : Hs) (st : List (Int × Hs)) (w0 : World) (hK : Laid w0) (hR : (Ty.enc eSt).Rd [] w0 sp st) :
    Calls Tryd.prog 64 #[hv k.1, .agg (pC sp lf pk pv).toArray] w0 (Ret fun u w' => u = optT (climbP k st lf pk pv) ∧ Ch [] w0 w') := by
  have hM := Mem.start w0
  have hle := hR.le
  obtain ⟨A, c, rfl⟩ := hR.form
  refine enterM [hv k.1, .agg (pC (.slice A st.length c) lf pk pv).toArray, undef, undef, undef, undef, undef, undef, undef, undef, undef, undef, undef, undef, undef, undef, undef, undef, undef, undef, undef, undef, undef, undef, undef, undef, undef, undef, undef, undef, undef, undef, undef, undef, undef, undef, undef, undef, undef, undef, undef, undef, undef, undef, undef, undef, undef, undef, undef, undef, undef, undef, undef, undef, undef, undef, undef, undef, undef] Tryd.func64 rfl rfl ?_
  repeat (first | refine gw ?_ | (refine ks ?_; intro w hM))
  refine kbx hM (fun w b2 hM => ?_)
  refine kbx hM (fun w b3 hM => ?_)
  refine kal hM (fun w b4 hM => ?_)
  refine kal hM (fun w b5 hM => ?_)
  have hM : Mem [] w0 w [.cell b5 [.bool false] 4, .cell b4 (zeroH.1.map u8v) 30, .cell b3 (pC (.slice A st.length c) lf pk pv) 49, .cell b2 (k.1.map u8v) 30] := hM
  repeat (first | refine gh ?_ | (refine ks ?_; intro w hM))
  refine kca hM (mgood_any (.slice A st.length c) lf pk pv st w (hR.ch hM.ch)) (fun w hM => ?_)
  repeat (first | refine gh ?_ | (refine ks ?_; intro w hM))
  unfold climbP
  by_cases hg : goodP st lf pk pv = true
  case neg =>
    rw [Bool.not_eq_true] at hg
    rw [hg]
    refine c_condb rfl (fun _ => ?_) (fun h => by cases h)
    repeat (first | refine gh ?_ | (refine ks ?_; intro w hM))
    (try ((with_reducible apply is_gd); first | refine gt ?_ | refine gf ?_ | refine gu ?_)); refine wl_val (r_build_arr0 (e := 5)) ?_
    refine kstw (vs := zeroH.1.map u8v) hM (fun w hM => ?_)
    repeat (first | refine gh ?_ | (refine ks ?_; intro w hM))
    exact post0 (koc22 hM rfl ⟨rfl, hM.ch⟩)
  rw [hg]
  refine c_condb rfl (fun h => by cases h) (fun _ => ?_)
  repeat (first | refine gh ?_ | (refine ks ?_; intro w hM))
  cases lf with
  | false =>
    refine c_condb rfl (fun _ => ?_) (fun h => by cases h)
    repeat (first | refine gh ?_ | (refine ks ?_; intro w hM))
    refine kca hM (tnothing_any w (hK.ch hM.ch (by simp))) (fun w hM => ?_)
    repeat (first | refine gh ?_ | (refine ks ?_; intro w hM))
    exact post0 (koc22 hM rfl ⟨rfl, hM.ch⟩)
  | true =>
    refine c_condb rfl (fun h => by cases h) (fun _ => ?_)
    have hgm := goodSt_mem (show goodSt (-1) st = true by unfold goodP at hg; simpa using hg) (by omega)
    repeat (first | refine gh ?_ | (refine ks ?_; intro w hM))
    refine kca hM (titem_any pk pv w (hK.ch hM.ch (by simp))) (fun w hM => ?_)
    refine kal hM (fun w b6 hM => ?_)
    refine kstw (vs := (itemH pk pv).1.map u8v) hM (fun w hM => ?_)
    rw [if_pos rfl, if_pos rfl]
    generalize itemH pk pv = h0 at hM ⊢
    repeat (first | refine gh ?_ | (refine ks ?_; intro w hM))
    refine ca (back_any (.slice A st.length c) w rfl) ?_
    rintro _ w1 ⟨b7, rfl, hN⟩
    have hM := (hM.join hN (by simp [As.plain])).perm List.perm_append_comm
    repeat (first | refine gh ?_ | (refine ks ?_; intro w hM))
    
    refine c_rangeM2 (e1 := fun x : (Int × Hs) × Nat => .int .i64 (x.2 : Int)) (e2 := fun x : (Int × Hs) × Nat => .agg (eSt.f x.1).toArray) hM rfl (enters_of Tryd.func115 (by kernel_rfl) rfl) (back_seq b7 hR)
      (fun pre La => ∃ h : Hs, La = [.cell b6 (h.1.map u8v) 30, .cell b5 [.bool false] 4, .cell b4 (zeroH.1.map u8v) 30, .cell b3 (pC (.slice A st.length c) true pk pv) 49, .cell b2 (k.1.map u8v) 30] ∧ climbUp k pk st.reverse h0 = climbUp k pk (st.reverse.drop pre.length) h) ⟨h0, rfl, rfl⟩
      (fun cd pre La => cd = .ret ∧ climbUp k pk st.reverse h0 = none ∧ ∃ h : Hs, La = [.cell b5 [.bool false] 4, .cell b4 (zeroH.1.map u8v) 30])
      (fun pre x l La => ∃ (h : Hs) (b8 : Nat), (∃ jj : Nat → Value, l = [jj 0, jj 1, .pointer (some ⟨b2, 0, none⟩), .pointer (some ⟨b3, 0, none⟩), .pointer (some ⟨b4, 0, none⟩), .pointer (some ⟨b5, 0, none⟩), .pointer (some ⟨b6, 0, none⟩), jj 7, .pointer (some ⟨b8, 0, none⟩), jj 9, jj 10, jj 11, jj 12, jj 13, jj 14, jj 15, jj 16, jj 17, jj 18, jj 19, jj 20, jj 21, jj 22, jj 23, jj 24, jj 25, jj 26, jj 27, jj 28, jj 29, jj 30, jj 31, jj 32, jj 33, jj 34, jj 35, jj 36, jj 37, jj 38, jj 39, jj 40, jj 41, jj 42, jj 43, jj 44, jj 45, jj 46, jj 47, jj 48, jj 49, jj 50, jj 51, jj 52, jj 53, jj 54, jj 55, jj 56, jj 57, jj 58]) ∧ La = [.cell b8 (eSt.f x.1) 52, .cell b6 (h.1.map u8v) 30, .cell b5 [.bool false] 4, .cell b4 (zeroH.1.map u8v) 30, .cell b3 (pC (.slice A st.length c) true pk pv) 49, .cell b2 (k.1.map u8v) 30] ∧ climbUp k pk st.reverse h0 = climbUp k pk (st.reverse.drop pre.length) h)
      ?_ ?_ ?_ ?_
    · rintro r pre x w La X K hp ⟨h, rfl, hf⟩ hM hK
      simp only [List.cons_append, List.nil_append] at hM
      refine ci_region (by (repeat (first | exact noOut_round | exact noOut_fls | exact noOut_M | apply noOut_then | apply noOut_block))) rfl ?_
      repeat (first | refine gh ?_ | (refine ks ?_; intro w hM))
      refine kal hM (fun w b8 hM => ?_)
      refine kstw (vs := eSt.f x.1) hM (fun w hM => ?_) (h1 := eSt.h1 x.1)
      repeat (first | refine gh ?_ | (refine ks ?_; intro w hM))
      exact hK _ w _ ⟨h, b8, exj rfl, rfl, hf⟩ hM
    · rintro r pre x l w La X hp ⟨h, b8, ⟨jj, rfl⟩, rfl, hf⟩ hM
      obtain ⟨hd, hxm⟩ := zr_pre hp
      rw [hd, climbUp] at hf
      have hx := hgm x.1 hxm
      obtain ⟨⟨xi, xs⟩, xn⟩ := x
      simp only at hf hx hM ⊢
      simp only [List.cons_append, List.nil_append] at hM
      refine wpIn_block ?_
      repeat (first | ((with_reducible apply is_ld); first | refine kld hM ?_ | refine kldw hM ?_ | refine kle hM ?_ | refine klew hM ?_ | refine kldh hM ?_ | refine kld hM ?_ (hv := by first | exact hs_get _ _ _ | exact hs_get1 _ _ _ _)) | ((with_reducible apply is_sto); first | (refine kst hM ?_; intro w hM) | (refine kstw hM ?_; intro w hM)) | ((with_reducible apply is_st); refine su ?_) | ((with_reducible apply is_gd); first | refine gt ?_ | refine gf ?_ | refine gu ?_) | ((with_reducible apply is_en); refine en ?_) | (with_reducible apply c_region) | refine ws ?_ | refine x_block_other (by decide) ?_ | (refine ci_region (by (repeat (first | exact noOut_round | exact noOut_fls | exact noOut_M | apply noOut_then | apply noOut_block))) rfl ?_) )
      refine kca hM (tbit_any k xi w) (fun w hM => ?_)
      repeat (first | ((with_reducible apply is_ld); first | refine kld hM ?_ | refine kldw hM ?_ | refine kle hM ?_ | refine klew hM ?_ | refine kldh hM ?_ | refine kld hM ?_ (hv := by first | exact hs_get _ _ _ | exact hs_get1 _ _ _ _)) | ((with_reducible apply is_sto); first | (refine kst hM ?_; intro w hM) | (refine kstw hM ?_; intro w hM)) | ((with_reducible apply is_st); refine su ?_) | ((with_reducible apply is_gd); first | refine gt ?_ | refine gf ?_ | refine gu ?_) | ((with_reducible apply is_en); refine en ?_) | (with_reducible apply c_region) | refine ws ?_ | refine x_block_other (by decide) ?_ | (refine ci_region (by (repeat (first | exact noOut_round | exact noOut_fls | exact noOut_M | apply noOut_then | apply noOut_block))) rfl ?_) )
      refine kca hM (tbit_any pk xi w) (fun w hM => ?_)
      repeat (first | ((with_reducible apply is_ld); first | refine kld hM ?_ | refine kldw hM ?_ | refine kle hM ?_ | refine klew hM ?_ | refine kldh hM ?_ | refine kld hM ?_ (hv := by first | exact hs_get _ _ _ | exact hs_get1 _ _ _ _)) | ((with_reducible apply is_sto); first | (refine kst hM ?_; intro w hM) | (refine kstw hM ?_; intro w hM)) | ((with_reducible apply is_st); refine su ?_) | ((with_reducible apply is_gd); first | refine gt ?_ | refine gf ?_ | refine gu ?_) | ((with_reducible apply is_en); refine en ?_) | (with_reducible apply c_region) | refine ws ?_ | refine x_block_other (by decide) ?_ | (refine ci_region (by (repeat (first | exact noOut_round | exact noOut_fls | exact noOut_M | apply noOut_then | apply noOut_block))) rfl ?_) )
      by_cases hb : bitZ pk xi = bitZ k xi
      · rw [if_pos hb] at hf
        rw [hb, decide_eq_false (by omega : ¬ (bitZ k xi : Int) ≠ (bitZ k xi : Int))]
        refine ci_condb rfl (fun h => by cases h) (fun _ => ?_)
        repeat (first | ((with_reducible apply is_ld); first | refine kld hM ?_ | refine kldw hM ?_ | refine kle hM ?_ | refine klew hM ?_ | refine kldh hM ?_ | refine kld hM ?_ (hv := by first | exact hs_get _ _ _ | exact hs_get1 _ _ _ _)) | ((with_reducible apply is_sto); first | (refine kst hM ?_; intro w hM) | (refine kstw hM ?_; intro w hM)) | ((with_reducible apply is_st); refine su ?_) | ((with_reducible apply is_gd); first | refine gt ?_ | refine gf ?_ | refine gu ?_) | ((with_reducible apply is_en); refine en ?_) | (with_reducible apply c_region) | refine ws ?_ | refine x_block_other (by decide) ?_ | (refine ci_region (by (repeat (first | exact noOut_round | exact noOut_fls | exact noOut_M | apply noOut_then | apply noOut_block))) rfl ?_) )
        (try ((with_reducible apply is_gd); first | refine gt ?_ | refine gf ?_ | refine gu ?_)); refine wl_val (r_bldS (vs := [(0, hv xs.1), (1, hv xs.1)]) (xs.1.map u8v ++ xs.1.map u8v) (z := List.replicate 64 (.int .u8 0)) (place := fun i => some (i * 32, 32)) (by intro ps; kernel_rfl) rfl (.cons rfl (by simp [hv, Value.cells]) (by simp) (.cons rfl (by simp [hv, Value.cells]) (by simp [spl, hv, Value.cells]) (.nil (by simp [spl, hv, Value.cells]))))) ?_
        refine kal hM (fun w b10 hM => ?_)
        refine kstw (vs := xs.1.map u8v ++ xs.1.map u8v) hM (fun w hM => ?_) (h1 := fun u hu => (List.mem_append.1 hu).elim (one_u8 u) (one_u8 u))
        repeat (first | ((with_reducible apply is_ld); first | refine kld hM ?_ | refine kldw hM ?_ | refine kle hM ?_ | refine klew hM ?_ | refine kldh hM ?_ | refine kld hM ?_ (hv := by first | exact hs_get _ _ _ | exact hs_get1 _ _ _ _)) | ((with_reducible apply is_sto); first | (refine kst hM ?_; intro w hM) | (refine kstw hM ?_; intro w hM)) | ((with_reducible apply is_st); refine su ?_) | ((with_reducible apply is_gd); first | refine gt ?_ | refine gf ?_ | refine gu ?_) | ((with_reducible apply is_en); refine en ?_) | (with_reducible apply c_region) | refine ws ?_ | refine x_block_other (by decide) ?_ | (refine ci_region (by (repeat (first | exact noOut_round | exact noOut_fls | exact noOut_M | apply noOut_then | apply noOut_block))) rfl ?_) )
        have hs : ∃ ha hb' : Hs, stepUp k (xi, xs) h = forkH xi ha hb' ∧ spl (xs.1.map u8v ++ xs.1.map u8v) (0 + ((bitZ k xi : Nat) : Int).toNat * 32) (h.1.map u8v) = ha.1.map u8v ++ hb'.1.map u8v := by
          unfold stepUp
          rcases bit_two k xi with h0 | h0
          · rw [h0, if_pos rfl]
            exact ⟨h, xs, rfl, both0 xs h⟩
          · rw [h0, if_neg (by decide)]
            exact ⟨xs, h, rfl, both1 xs h⟩
        obtain ⟨ha, hb', hs1, hs2⟩ := hs
        have hlt := bitZ_lt k xi
        (try ((with_reducible apply is_gd); first | refine gt ?_ | refine gf ?_ | refine gu ?_)); refine wl_val (r_indexAddr_arr (i := ((bitZ k xi : Nat) : Int)) rfl rfl (by omega) (by omega)) ?_
        refine kstp (vs := h.1.map u8v) hM (fun w hM => ?_) hs2
        repeat (first | ((with_reducible apply is_ld); first | refine kld hM ?_ | refine kldw hM ?_ | refine kle hM ?_ | refine klew hM ?_ | refine kldh hM ?_ | refine kld hM ?_ (hv := by first | exact hs_get _ _ _ | exact hs_get1 _ _ _ _)) | ((with_reducible apply is_sto); first | (refine kst hM ?_; intro w hM) | (refine kstw hM ?_; intro w hM)) | ((with_reducible apply is_st); refine su ?_) | ((with_reducible apply is_gd); first | refine gt ?_ | refine gf ?_ | refine gu ?_) | ((with_reducible apply is_en); refine en ?_) | (with_reducible apply c_region) | refine ws ?_ | refine x_block_other (by decide) ?_ | (refine ci_region (by (repeat (first | exact noOut_round | exact noOut_fls | exact noOut_M | apply noOut_then | apply noOut_block))) rfl ?_) )
        refine kca hM (tfork_any xi hx.1 hx.2 ha hb' w (hK.ch hM.ch (by simp))) (fun w hM => ?_)
        refine kstw (vs := (forkH xi ha hb').1.map u8v) hM (fun w hM => ?_)
        repeat (first | ((with_reducible apply is_ld); first | refine kld hM ?_ | refine kldw hM ?_ | refine kle hM ?_ | refine klew hM ?_ | refine kldh hM ?_ | refine kld hM ?_ (hv := by first | exact hs_get _ _ _ | exact hs_get1 _ _ _ _)) | ((with_reducible apply is_sto); first | (refine kst hM ?_; intro w hM) | (refine kstw hM ?_; intro w hM)) | ((with_reducible apply is_st); refine su ?_) | ((with_reducible apply is_gd); first | refine gt ?_ | refine gf ?_ | refine gu ?_) | ((with_reducible apply is_en); refine en ?_) | (with_reducible apply c_region) | refine ws ?_ | refine x_block_other (by decide) ?_ | (refine ci_region (by (repeat (first | exact noOut_round | exact noOut_fls | exact noOut_M | apply noOut_then | apply noOut_block))) rfl ?_) )
        rw [← hs1] at hM
        refine ⟨[.cell b6 ((stepUp k (xi, xs) h).1.map u8v) 30, .cell b5 [.bool false] 4, .cell b4 (zeroH.1.map u8v) 30, .cell b3 (pC (.slice A st.length c) true pk pv) 49, .cell b2 (k.1.map u8v) 30], ⟨_, rfl, ?_⟩, hM.sub (by (repeat (first | exact Go.Proofs.E.Sub.refl _ | exact Go.Proofs.E.Sub.nil | (apply Go.Proofs.E.Sub.cons; (repeat (first | exact Go.Proofs.E.Pick.here | apply Go.Proofs.E.Pick.there))) | apply Go.Proofs.E.Sub.tail)))⟩
        rw [hf, List.length_append]
        rfl
      · rw [if_neg hb] at hf
        rw [decide_eq_true (by omega : (bitZ pk xi : Int) ≠ (bitZ k xi : Int))]
        refine ci_condb rfl (fun _ => ?_) (fun h => by cases h)
        repeat (first | ((with_reducible apply is_ld); first | refine kld hM ?_ | refine kldw hM ?_ | refine kle hM ?_ | refine klew hM ?_ | refine kldh hM ?_ | refine kld hM ?_ (hv := by first | exact hs_get _ _ _ | exact hs_get1 _ _ _ _)) | ((with_reducible apply is_sto); first | (refine kst hM ?_; intro w hM) | (refine kstw hM ?_; intro w hM)) | ((with_reducible apply is_st); refine su ?_) | ((with_reducible apply is_gd); first | refine gt ?_ | refine gf ?_ | refine gu ?_) | ((with_reducible apply is_en); refine en ?_) | (with_reducible apply c_region) | refine ws ?_ | refine x_block_other (by decide) ?_ | (refine ci_region (by (repeat (first | exact noOut_round | exact noOut_fls | exact noOut_M | apply noOut_then | apply noOut_block))) rfl ?_) )
        (try ((with_reducible apply is_gd); first | refine gt ?_ | refine gf ?_ | refine gu ?_)); refine wl_val (r_build_arr0 (e := 5)) ?_
        refine kstw (vs := zeroH.1.map u8v) hM (fun w hM => ?_)
        repeat (first | ((with_reducible apply is_ld); first | refine kld hM ?_ | refine kldw hM ?_ | refine kle hM ?_ | refine klew hM ?_ | refine kldh hM ?_ | refine kld hM ?_ (hv := by first | exact hs_get _ _ _ | exact hs_get1 _ _ _ _)) | ((with_reducible apply is_sto); first | (refine kst hM ?_; intro w hM) | (refine kstw hM ?_; intro w hM)) | ((with_reducible apply is_st); refine su ?_) | ((with_reducible apply is_gd); first | refine gt ?_ | refine gf ?_ | refine gu ?_) | ((with_reducible apply is_en); refine en ?_) | (with_reducible apply c_region) | refine ws ?_ | refine x_block_other (by decide) ?_ | (refine ci_region (by (repeat (first | exact noOut_round | exact noOut_fls | exact noOut_M | apply noOut_then | apply noOut_block))) rfl ?_) )
        exact ⟨[.cell b5 [.bool false] 4, .cell b4 (zeroH.1.map u8v) 30], ⟨rfl, hf, h, rfl⟩, hM.sub (by (repeat (first | exact Go.Proofs.E.Sub.refl _ | exact Go.Proofs.E.Sub.nil | (apply Go.Proofs.E.Sub.cons; (repeat (first | exact Go.Proofs.E.Pick.here | apply Go.Proofs.E.Pick.there))) | apply Go.Proofs.E.Sub.tail)))⟩
    · rintro D w La ⟨h, rfl, hf⟩ hM
      rw [List.drop_eq_nil_of_le (by simp), climbUp] at hf
      rw [hf]
      simp only [List.cons_append, List.nil_append] at hM
      have hD := hM.head
      change Code.wp _ _ _ _ _
      refine wp_seq ?_
      refine c_regd rfl (noOut_then noOut_M) ?_
      repeat (first | refine gh ?_ | (refine ks ?_; intro w hM))
      change Code.wp _ _ _ (frd _ _) w
      refine wp_ret ?_
      refine post1 (hM.pick (a := .obj D _) (by (repeat constructor))).head ?_
      have hM := (hM.pick (a := .obj D _) (by (repeat constructor))).putObj (o' := .deferred none)
      exact koc22 hM rfl ⟨rfl, hM.ch⟩
    · rintro D cd pre w La ⟨rfl, hf, h, rfl⟩ hM
      rw [hf]
      simp only [List.cons_append, List.nil_append] at hM
      refine wpIn_ret ?_
      have hD := hM.head
      refine post1 hD ?_
      have hM := hM.putObj (o' := .deferred none)
      exact koc22 hM rfl ⟨rfl, hM.ch⟩
end Go.Proofs.YtkdbinchlpdkmaaDoor
set_option linter.unusedVariables false
set_option linter.unusedSimpArgs false
namespace Go.Proofs.YtkdbinchlpdkmaaDoor
open Go Go.RowKit Go.Proofs.E
theorem byte_ext {a b : Nat} (ha : a < 256) (hb : b < 256) (h : ∀ j, j < 8 → a / 2 ^ (7 - j) % 2 = b / 2 ^ (7 - j) % 2) : a = b := by
  have h0 := h 0 (by omega)
  have h1 := h 1 (by omega)
  have h2 := h 2 (by omega)
  have h3 := h 3 (by omega)
  have h4 := h 4 (by omega)
  have h5 := h 5 (by omega)
  have h6 := h 6 (by omega)
  have h7 := h 7 (by omega)
  simp only [Nat.reducePow, Nat.reduceSub] at h0 h1 h2 h3 h4 h5 h6 h7
  omega
theorem bits_ext {a b : Hs} (h : ∀ i, i < 256 → bitN a i = bitN b i) : a = b := by
  apply Subtype.ext
  apply List.ext_getElem (by rw [a.2, b.2])
  intro i h1 h2
  have hi : i < 32 := by rw [a.2] at h1; exact h1
  apply UInt8.toNat_inj.1
  apply byte_ext (UInt8.toNat_lt _) (UInt8.toNat_lt _)
  intro j hj
  have := h (i * 8 + j) (by omega)
  unfold bitN at this
  rw [show (i * 8 + j) / 8 = i by omega, show (i * 8 + j) % 8 = j by omega] at this
  rwa [List.getD_eq_getElem?_getD, List.getElem?_eq_getElem h1, List.getD_eq_getElem?_getD, List.getElem?_eq_getElem h2] at this
theorem bitN_two (a : Hs) (i : Nat) : bitN a i = 0 ∨ bitN a i = 1 := by unfold bitN; omega
def apartN (a b : Hs) : Nat := ((List.range 256).find? (fun i => decide (bitN a i ≠ bitN b i))).getD 256
theorem apart_spec (a b : Hs) : (apartN a b = 256 ∧ a = b) ∨ (apartN a b < 256 ∧ bitN a (apartN a b) ≠ bitN b (apartN a b) ∧ ∀ j, j < apartN a b → bitN a j = bitN b j) := by
  unfold apartN
  cases h : (List.range 256).find? (fun i => decide (bitN a i ≠ bitN b i)) with
  | none =>
    refine .inl ⟨rfl, bits_ext fun i hi => ?_⟩
    have := List.find?_eq_none.1 h i (List.mem_range.2 hi)
    simpa using this
  | some i =>
    right
    obtain ⟨h1, k, hk, hki, hlt⟩ := List.find?_eq_some_iff_getElem.1 h
    rw [List.getElem_range] at hki
    subst hki
    rw [List.length_range] at hk
    refine ⟨hk, of_decide_eq_true h1, fun j hj => ?_⟩
    have := hlt j hj
    rw [List.getElem_range] at this
    simpa using this
/-- The keys' order. -/
def LtK (a b : Hs) : Prop := ∃ i, i < 256 ∧ (∀ j, j < i → bitN a j = bitN b j) ∧ bitN a i = 0 ∧ bitN b i = 1
def lessB (a b : Hs) : Bool := decide (apartN a b < 256) && decide (bitN a (apartN a b) = 0)
theorem less_iff {a b : Hs} : lessB a b = true ↔ LtK a b := by
  unfold lessB
  rw [Bool.and_eq_true, decide_eq_true_eq, decide_eq_true_eq]
  rcases apart_spec a b with ⟨h1, h2⟩ | ⟨h1, h2, h3⟩
  · constructor
    · intro h; omega
    · rintro ⟨i, hi, _, h4, h5⟩
      rw [h2] at h4
      omega
  · constructor
    · rintro ⟨_, h⟩
      refine ⟨_, h1, h3, h, ?_⟩
      rcases bitN_two b (apartN a b) with h4 | h4
      · rw [h, h4] at h2; exact absurd rfl h2
      · exact h4
    · rintro ⟨i, hi, h4, h5, h6⟩
      have e : i = apartN a b := by
        rcases Nat.lt_trichotomy i (apartN a b) with h7 | h7 | h7
        · have := h3 i h7; omega
        · exact h7
        · exact absurd (h4 _ h7) h2
      exact ⟨h1, e ▸ h5⟩
theorem LtK.irr {a : Hs} : ¬ LtK a a := fun ⟨i, _, _, h1, h2⟩ => by omega
theorem LtK.trans {a b c : Hs} (h : LtK a b) (k : LtK b c) : LtK a c := by
  obtain ⟨i, hi, h1, h2, h3⟩ := h
  obtain ⟨j, hj, k1, k2, k3⟩ := k
  rcases Nat.lt_trichotomy i j with e | e | e
  · exact ⟨i, hi, fun q hq => (h1 q hq).trans (k1 q (by omega)), h2, by rw [← k1 i e]; exact h3⟩
  · subst e; omega
  · exact ⟨j, hj, fun q hq => (h1 q (by omega)).trans (k1 q hq), by rw [h1 j e]; exact k2, k3⟩
theorem LtK.tot {a b : Hs} (h : ¬ LtK a b) (hne : a ≠ b) : LtK b a := by
  rcases apart_spec a b with ⟨_, h2⟩ | ⟨h1, h2, h3⟩
  · exact absurd h2 hne
  · rcases bitN_two a (apartN a b) with h4 | h4 <;> rcases bitN_two b (apartN a b) with h5 | h5
    · exact absurd (h4.trans h5.symm) h2
    · exact absurd ⟨_, h1, h3, h4, h5⟩ h
    · exact ⟨_, h1, fun j hj => (h3 j hj).symm, h5, h4⟩
    · exact absurd (h4.trans h5.symm) h2
abbrev KV := Hs × Hs
def SortK (m : List KV) : Prop := m.Pairwise (fun x y => LtK x.1 y.1)
/-- A step of Put: what is out, and whether the key has been put. -/
def putS (k v : Hs) (st : List KV × Bool) (x : KV) : List KV × Bool :=
  ((if st.2 = false ∧ lessB x.1 k = false then st.1 ++ [(k, v)] else st.1) ++ (if x.1 ≠ k then [x] else []), st.2 || !lessB x.1 k)
def putM (m : List KV) (k v : Hs) : List KV := if (m.foldl (putS k v) ([], false)).2 = true then (m.foldl (putS k v) ([], false)).1 else (m.foldl (putS k v) ([], false)).1 ++ [(k, v)]
def insM (k v : Hs) : List KV → List KV
  | [] => [(k, v)]
  | x :: m => if lessB x.1 k = true then x :: insM k v m else (k, v) :: (x :: m).filter (fun y => decide (y.1 ≠ k))
theorem put_true (k v : Hs) : ∀ (m : List KV) (o : List KV), m.foldl (putS k v) (o, true) = (o ++ m.filter (fun y => decide (y.1 ≠ k)), true)
  | [], o => by simp
  | x :: m, o => by
    rw [List.foldl_cons]
    have e : putS k v (o, true) x = (o ++ (if x.1 ≠ k then [x] else []), true) := by simp [putS]
    rw [e, put_true k v m]
    by_cases h : x.1 = k <;> simp [h]
theorem put_false (k v : Hs) : ∀ (m : List KV) (o : List KV), (if (m.foldl (putS k v) (o, false)).2 = true then (m.foldl (putS k v) (o, false)).1 else (m.foldl (putS k v) (o, false)).1 ++ [(k, v)]) = o ++ insM k v m
  | [], o => by simp [insM]
  | x :: m, o => by
    rw [List.foldl_cons, insM]
    by_cases h : lessB x.1 k = true
    · have hne : x.1 ≠ k := fun e => by rw [e] at h; exact LtK.irr (less_iff.1 h)
      have e : putS k v (o, false) x = (o ++ [x], false) := by simp [putS, h, hne]
      rw [e, put_false k v m, if_pos h]
      simp
    · have h' : lessB x.1 k = false := by simpa using h
      have e : putS k v (o, false) x = (o ++ [(k, v)] ++ (if x.1 ≠ k then [x] else []), true) := by simp [putS, h']
      rw [e, put_true, if_pos rfl, if_neg h]
      by_cases hk : x.1 = k <;> simp [hk]
theorem putM_ins (m : List KV) (k v : Hs) : putM m k v = insM k v m := by
  unfold putM
  have := put_false k v m []
  simpa using this
theorem insM_mem {k v : Hs} : ∀ {m : List KV} {x : KV}, x ∈ insM k v m → x = (k, v) ∨ x ∈ m
  | [], x, h => by simp [insM] at h; exact .inl h
  | y :: m, x, h => by
    rw [insM] at h
    split at h
    · rcases List.mem_cons.1 h with h | h
      · exact .inr (by simp [h])
      · rcases insM_mem h with h | h
        · exact .inl h
        · exact .inr (by simp [h])
    · rcases List.mem_cons.1 h with h | h
      · exact .inl h
      · exact .inr (List.mem_filter.1 h).1
theorem insM_sort {k v : Hs} : ∀ {m : List KV}, SortK m → SortK (insM k v m)
  | [], _ => List.pairwise_singleton _ _
  | x :: m, h => by
    rw [insM]
    obtain ⟨h1, h2⟩ := List.pairwise_cons.1 h
    split
    · rename_i hl
      refine List.pairwise_cons.2 ⟨fun y hy => ?_, insM_sort h2⟩
      rcases insM_mem hy with rfl | hy
      · exact less_iff.1 hl
      · exact h1 y hy
    · rename_i hl
      have hnl : ¬ LtK x.1 k := fun q => hl (less_iff.2 q)
      refine List.pairwise_cons.2 ⟨fun y hy => ?_, h.sublist List.filter_sublist⟩
      obtain ⟨hy1, hy2⟩ := List.mem_filter.1 hy
      have hy2 : y.1 ≠ k := of_decide_eq_true hy2
      refine LtK.tot (fun q => hnl ?_) hy2
      rcases List.mem_cons.1 hy1 with rfl | hy1
      · exact q
      · exact (h1 y hy1).trans q
theorem putM_sort {m : List KV} {k v : Hs} (h : SortK m) : SortK (putM m k v) := by rw [putM_ins]; exact insM_sort h
theorem putM_ne {m : List KV} {k v : Hs} : putM m k v ≠ [] := by
  rw [putM_ins]
  cases m with
  | nil => simp [insM]
  | cons x m => rw [insM]; split <;> simp
/-! ### Cut -/
def keyAt (m : List KV) (i : Nat) : Hs := (m.getD i (zeroH, zeroH)).1
def cutI (m : List KV) : Nat := apartN (keyAt m 0) (keyAt m (m.length - 1))
def cutC (m : List KV) (i : Nat) : Nat := m.countP (fun x => decide (bitN x.1 i = 0))
theorem key_mem {m : List KV} {i : Nat} (h : i < m.length) : ∃ x ∈ m, m[i]? = some x ∧ keyAt m i = x.1 := by
  refine ⟨m[i], List.getElem_mem h, List.getElem?_eq_getElem h, ?_⟩
  unfold keyAt
  rw [List.getD_eq_getElem?_getD, List.getElem?_eq_getElem h]
  rfl
theorem sort_lt {m : List KV} (h : SortK m) {i j : Nat} {x y : KV} (hx : m[i]? = some x) (hy : m[j]? = some y) (hij : i < j) : LtK x.1 y.1 := by
  obtain ⟨h1, rfl⟩ := List.getElem?_eq_some_iff.1 hx
  obtain ⟨h2, rfl⟩ := List.getElem?_eq_some_iff.1 hy
  exact List.pairwise_iff_getElem.1 h i j h1 h2 hij
/-- Between two keys that share their first bits, all do. -/
theorem lt_share {a x b : Hs} {i : Nat} (h1 : ∀ j, j < i → bitN a j = bitN b j) (ha : a = x ∨ LtK a x) (hb : x = b ∨ LtK x b) (hi : i ≤ 256) : ∀ j, j < i → bitN a j = bitN x j := by
  rcases ha with rfl | ⟨p, hp, p1, p2, p3⟩
  · exact fun _ _ => rfl
  · rcases hb with rfl | ⟨q, hq, q1, q2, q3⟩
    · exact h1
    · intro j hj
      by_cases hpi : p < i
      · have e := h1 p hpi
        rcases Nat.lt_trichotomy p q with h | h | h
        · have := q1 p h; omega
        · subst h; omega
        · have e2 := h1 q (by omega)
          have := p1 q h
          omega
      · exact p1 j (by omega)
theorem cut_spec {m : List KV} (hs : SortK m) (h2 : 2 ≤ m.length) :
    cutI m < 256 ∧ (∀ x ∈ m, ∀ j, j < cutI m → bitN (keyAt m 0) j = bitN x.1 j) ∧ bitN (keyAt m 0) (cutI m) = 0 ∧ bitN (keyAt m (m.length - 1)) (cutI m) = 1 := by
  obtain ⟨a, ha, ha1, ha2⟩ := key_mem (m := m) (i := 0) (by omega)
  obtain ⟨b, hb, hb1, hb2⟩ := key_mem (m := m) (i := m.length - 1) (by omega)
  have hlt := sort_lt hs ha1 hb1 (by omega)
  have hlb := less_iff.2 hlt
  unfold cutI
  rw [ha2, hb2]
  rcases apart_spec a.1 b.1 with ⟨_, e⟩ | ⟨h3, h4, h5⟩
  · rw [e] at hlt; exact absurd hlt LtK.irr
  · unfold lessB at hlb
    rw [Bool.and_eq_true, decide_eq_true_eq, decide_eq_true_eq] at hlb
    refine ⟨h3, fun x hx => ?_, hlb.2, ?_⟩
    · obtain ⟨q, hq⟩ := List.getElem?_of_mem hx
      have hql := (List.getElem?_eq_some_iff.1 hq).1
      refine lt_share h5 ?_ ?_ (by omega)
      · rcases Nat.eq_zero_or_pos q with rfl | h
        · rw [ha1] at hq
          exact .inl (by rw [Option.some.inj hq])
        · exact .inr (sort_lt hs ha1 hq h)
      · by_cases e : q = m.length - 1
        · subst e
          rw [hb1] at hq
          exact .inl (by rw [Option.some.inj hq])
        · exact .inr (sort_lt hs hq hb1 (by omega))
    · rcases bitN_two b.1 (apartN a.1 b.1) with h6 | h6
      · rw [hlb.2, h6] at h4; exact absurd rfl h4
      · exact h6
/-- Zeros ahead of ones: as many zeros are taken as there are. -/
theorem count_cut {α : Type} {f : α → Nat} : ∀ {m : List α}, (∀ x ∈ m, f x = 0 ∨ f x = 1) → m.Pairwise (fun x y => f x ≤ f y) →
    (∀ x ∈ m.take (m.countP (fun x => decide (f x = 0))), f x = 0) ∧ (∀ x ∈ m.drop (m.countP (fun x => decide (f x = 0))), f x = 1)
  | [], _, _ => by simp
  | x :: m, h, hp => by
    obtain ⟨h1, h2⟩ := List.pairwise_cons.1 hp
    obtain ⟨i1, i2⟩ := count_cut (fun y hy => h y (by simp [hy])) h2
    rcases h x (by simp) with h0 | h0
    · rw [List.countP_cons_of_pos (by simp [h0])]
      refine ⟨fun y hy => ?_, fun y hy => i2 y (by simpa using hy)⟩
      rw [List.take_succ_cons] at hy
      rcases List.mem_cons.1 hy with rfl | hy
      · exact h0
      · exact i1 y hy
    · have hz : m.countP (fun x => decide (f x = 0)) = 0 := by
        rw [List.countP_eq_zero]
        intro y hy
        have := h1 y hy
        rcases h y (by simp [hy]) with h3 | h3 <;> simp <;> omega
      rw [List.countP_cons_of_neg (by simp [h0]), hz]
      refine ⟨fun y hy => by simp at hy, fun y hy => ?_⟩
      rw [List.drop_zero] at hy
      rcases List.mem_cons.1 hy with rfl | hy
      · exact h0
      · have := h1 y hy
        rcases h y (by simp [hy]) with h3 | h3 <;> omega
theorem cut_parts {m : List KV} (hs : SortK m) (h2 : 2 ≤ m.length) :
    0 < cutC m (cutI m) ∧ cutC m (cutI m) < m.length ∧ (∀ x ∈ m.take (cutC m (cutI m)), bitN x.1 (cutI m) = 0) ∧ (∀ x ∈ m.drop (cutC m (cutI m)), bitN x.1 (cutI m) = 1) := by
  obtain ⟨h3, h4, h5, h6⟩ := cut_spec hs h2
  obtain ⟨a, ha, ha1, ha2⟩ := key_mem (m := m) (i := 0) (by omega)
  obtain ⟨b, hb, hb1, hb2⟩ := key_mem (m := m) (i := m.length - 1) (by omega)
  rw [ha2] at h5
  rw [hb2] at h6
  have hmono : m.Pairwise (fun x y => bitN x.1 (cutI m) ≤ bitN y.1 (cutI m)) := List.Pairwise.imp_of_mem (fun {x y} hx hy hxy => by
    obtain ⟨i, hi, p1, p2, p3⟩ := hxy
    have e1 := h4 x hx
    have e2 := h4 y hy
    rcases Nat.lt_trichotomy i (cutI m) with h | h | h
    · have := e1 i h; have := e2 i h; omega
    · rw [← h]; omega
    · have := p1 _ h; omega) hs
  obtain ⟨c1, c2⟩ := count_cut (f := fun x : KV => bitN x.1 (cutI m)) (fun x _ => bitN_two _ _) hmono
  have hle : cutC m (cutI m) ≤ m.length := List.countP_le_length
  have hpos : 0 < cutC m (cutI m) := List.countP_pos_iff.2 ⟨a, ha, by simpa using h5⟩
  refine ⟨hpos, ?_, c1, c2⟩
  rcases Nat.lt_or_ge (cutC m (cutI m)) m.length with h | h
  · exact h
  · exfalso
    have hb' : b ∈ m.take (cutC m (cutI m)) := by rw [List.take_of_length_le h]; exact hb
    have : bitN b.1 (cutI m) = 0 := c1 b hb'
    omega
theorem SortK.take {m : List KV} (h : SortK m) (n : Nat) : SortK (m.take n) := h.sublist (List.take_sublist _ _)
theorem SortK.drop {m : List KV} (h : SortK m) (n : Nat) : SortK (m.drop n) := h.sublist (List.drop_sublist _ _)
end Go.Proofs.YtkdbinchlpdkmaaDoor
set_option linter.unusedVariables false
set_option linter.unusedSimpArgs false
namespace Go.Proofs.YtkdbinchlpdkmaaDoor
open Go Go.RowKit Go.Proofs.E
/-- The map's root, of f steps at most. -/
def rootMF : Nat → List KV → Hs
  | 0, _ => shaH [5]
  | f + 1, m => if m.length = 0 then shaH [5] else if m.length = 1 then itemH (m.getD 0 (zeroH, zeroH)).1 (m.getD 0 (zeroH, zeroH)).2
    else forkH (cutI m : Int) (rootMF f (m.take (cutC m (cutI m)))) (rootMF f (m.drop (cutC m (cutI m))))
def rootM (m : List KV) : Hs := rootMF m.length m
theorem rootMF_any : ∀ (f g : Nat) (m : List KV), SortK m → m.length ≤ f → m.length ≤ g → rootMF f m = rootMF g m
  | 0, 0, m, _, _, _ => rfl
  | 0, g + 1, m, _, h, _ => by rw [rootMF, rootMF, if_pos (by omega)]
  | f + 1, 0, m, _, _, h => by rw [rootMF, rootMF, if_pos (by omega)]
  | f + 1, g + 1, m, hs, hf, hg => by
    rw [rootMF, rootMF]
    by_cases h0 : m.length = 0
    · rw [if_pos h0, if_pos h0]
    · rw [if_neg h0, if_neg h0]
      by_cases h1 : m.length = 1
      · rw [if_pos h1, if_pos h1]
      · rw [if_neg h1, if_neg h1]
        obtain ⟨c1, c2, _, _⟩ := cut_parts hs (by omega)
        rw [rootMF_any f g _ (hs.take _) (by rw [List.length_take]; omega) (by rw [List.length_take]; omega), rootMF_any f g _ (hs.drop _) (by rw [List.length_drop]; omega) (by rw [List.length_drop]; omega)]
theorem rootM_nil : rootM [] = shaH [5] := rfl
theorem rootM_one (x : KV) : rootM [x] = itemH x.1 x.2 := rfl
theorem rootM_two {m : List KV} (hs : SortK m) (h2 : 2 ≤ m.length) : rootM m = forkH (cutI m : Int) (rootM (m.take (cutC m (cutI m)))) (rootM (m.drop (cutC m (cutI m)))) := by
  obtain ⟨c1, c2, _, _⟩ := cut_parts hs h2
  obtain ⟨f, hf⟩ : ∃ f, m.length = f + 1 := ⟨m.length - 1, by omega⟩
  unfold rootM
  conv => lhs; rw [hf]
  rw [rootMF, if_neg (by omega), if_neg (by omega)]
  rw [rootMF_any f _ (m.take _) (hs.take _) (by rw [List.length_take]; omega) (Nat.le_refl _), rootMF_any f _ (m.drop _) (hs.drop _) (by rw [List.length_drop]; omega) (Nat.le_refl _)]
/-- What is proved of a key: the steps down, and the item that stands there. -/
def proveF (k : Hs) : Nat → List KV → List (Int × Hs) × List KV
  | 0, m => ([], m)
  | f + 1, m => if m.length ≤ 1 then ([], m)
    else if bitN k (cutI m) = 0 then (((cutI m : Int), rootM (m.drop (cutC m (cutI m)))) :: (proveF k f (m.take (cutC m (cutI m)))).1, (proveF k f (m.take (cutC m (cutI m)))).2)
    else (((cutI m : Int), rootM (m.take (cutC m (cutI m)))) :: (proveF k f (m.drop (cutC m (cutI m)))).1, (proveF k f (m.drop (cutC m (cutI m)))).2)
theorem proveF_any (k : Hs) : ∀ (f g : Nat) (m : List KV), SortK m → m.length ≤ f → m.length ≤ g → proveF k f m = proveF k g m
  | 0, 0, m, _, _, _ => rfl
  | 0, g + 1, m, _, h, _ => by rw [proveF, proveF, if_pos (by omega)]
  | f + 1, 0, m, _, _, h => by rw [proveF, proveF, if_pos (by omega)]
  | f + 1, g + 1, m, hs, hf, hg => by
    rw [proveF, proveF]
    by_cases h0 : m.length ≤ 1
    · rw [if_pos h0, if_pos h0]
    · rw [if_neg h0, if_neg h0]
      obtain ⟨c1, c2, _, _⟩ := cut_parts hs (by omega)
      rw [proveF_any k f g _ (hs.take _) (by rw [List.length_take]; omega) (by rw [List.length_take]; omega), proveF_any k f g _ (hs.drop _) (by rw [List.length_drop]; omega) (by rw [List.length_drop]; omega)]
def proveM (k : Hs) (m : List KV) : List (Int × Hs) × List KV := proveF k m.length m
theorem proveM_end {k : Hs} {m : List KV} (h : m.length ≤ 1) : proveM k m = ([], m) := by
  unfold proveM
  cases hl : m.length with
  | zero => rfl
  | succ n => rw [proveF, if_pos h]
/-- One step down. -/
theorem proveM_step {k : Hs} {m : List KV} (hs : SortK m) (h2 : 2 ≤ m.length) :
    proveM k m = if bitN k (cutI m) = 0 then (((cutI m : Int), rootM (m.drop (cutC m (cutI m)))) :: (proveM k (m.take (cutC m (cutI m)))).1, (proveM k (m.take (cutC m (cutI m)))).2)
      else (((cutI m : Int), rootM (m.take (cutC m (cutI m)))) :: (proveM k (m.drop (cutC m (cutI m)))).1, (proveM k (m.drop (cutC m (cutI m)))).2) := by
  obtain ⟨c1, c2, _, _⟩ := cut_parts hs h2
  obtain ⟨f, hf⟩ : ∃ f, m.length = f + 1 := ⟨m.length - 1, by omega⟩
  unfold proveM
  conv => lhs; rw [hf]
  rw [proveF, if_neg (by omega)]
  rw [proveF_any k f _ (m.take _) (hs.take _) (by rw [List.length_take]; omega) (Nat.le_refl _), proveF_any k f _ (m.drop _) (hs.drop _) (by rw [List.length_drop]; omega) (Nat.le_refl _)]
theorem climbUp_app {k pk : Hs} : ∀ (a b : List (Int × Hs)) (h : Hs), climbUp k pk (a ++ b) h = (climbUp k pk a h).bind (climbUp k pk b)
  | [], b, h => rfl
  | s :: a, b, h => by
    rw [List.cons_append, climbUp, climbUp]
    split
    · exact climbUp_app a b _
    · rfl
theorem bitZ_nat {k : Hs} {i : Nat} (h : i < 256) : bitZ k (i : Int) = bitN k i := by
  unfold bitZ
  rw [if_pos (by omega), Int.toNat_natCast]
/-- The keys of m share the bits before n. -/
def Share (m : List KV) (n : Nat) : Prop := ∀ x ∈ m, ∀ y ∈ m, ∀ j, j < n → bitN x.1 j = bitN y.1 j
theorem share_cut {m : List KV} (hs : SortK m) (h2 : 2 ≤ m.length) {n : Nat} (h : Share m n) : n ≤ cutI m := by
  obtain ⟨h3, h4, h5, h6⟩ := cut_spec hs h2
  obtain ⟨a, ha, ha1, ha2⟩ := key_mem (m := m) (i := 0) (by omega)
  obtain ⟨b, hb, hb1, hb2⟩ := key_mem (m := m) (i := m.length - 1) (by omega)
  rw [ha2] at h5
  rw [hb2] at h6
  rcases Nat.lt_or_ge (cutI m) n with e | e
  · have := h a ha b hb _ e
    omega
  · exact e
theorem share_take {m : List KV} (hs : SortK m) (h2 : 2 ≤ m.length) : Share (m.take (cutC m (cutI m))) (cutI m + 1) ∧ Share (m.drop (cutC m (cutI m))) (cutI m + 1) := by
  obtain ⟨h3, h4, h5, h6⟩ := cut_spec hs h2
  obtain ⟨_, _, c3, c4⟩ := cut_parts hs h2
  refine ⟨fun x hx y hy j hj => ?_, fun x hx y hy j hj => ?_⟩
  · by_cases e : j = cutI m
    · subst e
      rw [c3 x hx, c3 y hy]
    · rw [← h4 x (List.mem_of_mem_take hx) j (by omega), h4 y (List.mem_of_mem_take hy) j (by omega)]
  · by_cases e : j = cutI m
    · subst e
      rw [c4 x hx, c4 y hy]
    · rw [← h4 x (List.mem_of_mem_drop hx) j (by omega), h4 y (List.mem_of_mem_drop hy) j (by omega)]
/-- The steps lead from the item to the root, and are in order. -/
theorem prove_spec (k : Hs) : ∀ (f : Nat) (m : List KV) (n : Nat), SortK m → m.length ≤ f → 1 ≤ m.length → Share m n → n ≤ 256 →
    ∃ x, (proveF k f m).2 = [x] ∧ x ∈ m ∧ climbUp k x.1 (proveF k f m).1.reverse (itemH x.1 x.2) = some (rootM m) ∧ goodSt ((n : Int) - 1) (proveF k f m).1 = true
  | 0, m, n, _, h, h1, _, _ => by omega
  | f + 1, m, n, hs, hf, h1, hn, hn2 => by
    rw [proveF]
    by_cases hl : m.length ≤ 1
    · rw [if_pos hl]
      match m, hl, h1 with
      | [x], _, _ => exact ⟨x, rfl, by simp, rfl, rfl⟩
      | x :: y :: r, hl, _ => simp at hl
    · rw [if_neg hl]
      have h2 : 2 ≤ m.length := by omega
      obtain ⟨h3, h4, h5, h6⟩ := cut_spec hs h2
      obtain ⟨c1, c2, c3, c4⟩ := cut_parts hs h2
      obtain ⟨s1, s2⟩ := share_take hs h2
      have hcut := share_cut hs h2 hn
      have hr := rootM_two hs h2
      by_cases hb : bitN k (cutI m) = 0
      · rw [if_pos hb]
        obtain ⟨x, hx1, hx2, hx3, hx4⟩ := prove_spec k f (m.take (cutC m (cutI m))) (cutI m + 1) (hs.take _) (by rw [List.length_take]; omega) (by rw [List.length_take]; omega) s1 (by omega)
        refine ⟨x, hx1, List.mem_of_mem_take hx2, ?_, ?_⟩
        · rw [List.reverse_cons, climbUp_app, hx3, Option.bind_some, climbUp, if_pos (by rw [bitZ_nat h3, bitZ_nat h3, c3 x hx2, hb]), climbUp, stepUp, if_pos (by rw [bitZ_nat h3]; exact hb), hr]
        · rw [goodSt, Bool.and_eq_true, Bool.and_eq_true, decide_eq_true_eq, decide_eq_true_eq]
          refine ⟨⟨by show (n : Int) - 1 < (cutI m : Int); omega, by show (cutI m : Int) ≤ 255; omega⟩, ?_⟩
          rw [show (((cutI m + 1 : Nat) : Int) - 1) = (cutI m : Int) by omega] at hx4
          exact hx4
      · rw [if_neg hb]
        have hb1 : bitN k (cutI m) = 1 := (bitN_two _ _).resolve_left hb
        obtain ⟨x, hx1, hx2, hx3, hx4⟩ := prove_spec k f (m.drop (cutC m (cutI m))) (cutI m + 1) (hs.drop _) (by rw [List.length_drop]; omega) (by rw [List.length_drop]; omega) s2 (by omega)
        refine ⟨x, hx1, List.mem_of_mem_drop hx2, ?_, ?_⟩
        · rw [List.reverse_cons, climbUp_app, hx3, Option.bind_some, climbUp, if_pos (by rw [bitZ_nat h3, bitZ_nat h3, c4 x hx2, hb1]), climbUp, stepUp, if_neg (by rw [bitZ_nat h3]; exact hb), hr]
        · rw [goodSt, Bool.and_eq_true, Bool.and_eq_true, decide_eq_true_eq, decide_eq_true_eq]
          refine ⟨⟨by show (n : Int) - 1 < (cutI m : Int); omega, by show (cutI m : Int) ≤ 255; omega⟩, ?_⟩
          rw [show (((cutI m + 1 : Nat) : Int) - 1) = (cutI m : Int) by omega] at hx4
          exact hx4
/-- A proof of a map leads to the map's root. -/
theorem prove_climb {k : Hs} {m : List KV} (hs : SortK m) (h1 : 1 ≤ m.length) : ∃ x, (proveM k m).2 = [x] ∧ x ∈ m ∧ climbP k (proveM k m).1 true x.1 x.2 = some (rootM m) := by
  unfold proveM
  obtain ⟨x, h2, h3, h4, h5⟩ := prove_spec k m.length m 0 hs (Nat.le_refl _) h1 (fun x _ y _ j hj => by omega) (by omega)
  refine ⟨x, h2, h3, ?_⟩
  unfold climbP goodP
  rw [show ((0 : Nat) : Int) - 1 = -1 by omega] at h5
  rw [h5, if_pos (by rfl), if_pos rfl, h4]
end Go.Proofs.YtkdbinchlpdkmaaDoor

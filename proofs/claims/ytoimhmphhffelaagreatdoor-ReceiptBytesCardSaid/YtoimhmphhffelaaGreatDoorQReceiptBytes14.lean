/- Walks of SHA-256: turning words, the words of a block.
   Walks of SHA-256: a block.
   Walks of SHA-256: bytes more.
   Walks of SHA-256: from the first state to the sum.
   Walks: the sum of bytes, of a kind, of two nodes.
   Walks: the reference's SHA-256: a block.
   Walks: the reference's padding, sums, nodes. -/
import Derived.Test.YtoimhmphhffelaaGreatDoorQReceiptBytes01
import Derived.Test.YtoimhmphhffelaaGreatDoorQReceiptBytes04
set_option linter.unusedVariables false
set_option linter.unusedSimpArgs false
namespace Go.Proofs.YtoimhmphhffelaaGreatDoor
open Go Go.RowKit Go.Proofs.E
attribute [local irreducible] Go.wpList Go.Code.wp Go.Proofs.E.exec Go.Proofs.E.wpLexG

/-! ### Plain words -/
def sg0 (x : UInt32) : UInt32 := rotr x 7 ^^^ rotr x 18 ^^^ (x >>> UInt32.ofNat 3)
def sg1 (x : UInt32) : UInt32 := rotr x 17 ^^^ rotr x 19 ^^^ (x >>> UInt32.ofNat 10)
/-- A word of four bytes. -/
def word (b : List UInt8) (i : Nat) : UInt32 := ((((b.getD (4 * i) 0).toUInt32 <<< UInt32.ofNat 24) ||| ((b.getD (4 * i + 1) 0).toUInt32 <<< UInt32.ofNat 16)) ||| ((b.getD (4 * i + 2) 0).toUInt32 <<< UInt32.ofNat 8)) ||| (b.getD (4 * i + 3) 0).toUInt32
/-- The next of a block's words. -/
def nextW (b : List UInt8) (l : List UInt32) : UInt32 :=
  if l.length < 16 then word b l.length else ((l.getD (l.length - 16) 0 + sg0 (l.getD (l.length - 15) 0)) + l.getD (l.length - 7) 0) + sg1 (l.getD (l.length - 2) 0)
def sch (b : List UInt8) : Nat → List UInt32
  | 0 => []
  | n + 1 => sch b n ++ [nextW b (sch b n)]
theorem sch_len (b : List UInt8) : ∀ n, (sch b n).length = n
  | 0 => rfl
  | n + 1 => by rw [sch, List.length_append, sch_len b n]; rfl

theorem rotl_any (x : UInt32) (r : Nat) (h : 1 ≤ r ∧ r ≤ 31) (w : World) : Calls Tryz.prog 248 #[v32 x, .int .i64 (-(r : Int))] w (Ret fun v w' => v = v32 (rotr x r) ∧ w' = w) := by
  refine enter [v32 x, .int .i64 (-(r : Int)), undef, undef, undef, undef, undef, undef, undef, undef, undef, undef, undef, undef, undef, undef, undef] Tryz.func248 rfl rfl ?_
  (try refine wk ?_)
  refine wl_val (r_and rfl rfl) ?_
  have e : IntKind.u64.wrap (BitVec.ofInt IntKind.u64.bits (IntKind.u64.wrap (-(r : Int))) &&& BitVec.ofInt IntKind.u64.bits 31).toNat = ((32 - r : Nat) : Int) := by
    have : IntKind.u64.wrap (-(r : Int)) = ((2 ^ 64 - r : Nat) : Int) := by
      simp only [IntKind.wrap, IntKind.signed, IntKind.bits, Bool.false_and, Bool.false_eq_true, if_false]
      omega
    rw [this, show (31 : Int) = ((31 : Nat) : Int) by rfl, BitVec.ofInt_natCast, BitVec.ofInt_natCast, BitVec.toNat_and]
    simp only [BitVec.toNat_ofNat, IntKind.bits]
    rw [Nat.mod_eq_of_lt (show 2 ^ 64 - r < 2 ^ 64 by omega), Nat.mod_eq_of_lt (show 31 < 2 ^ 64 by omega), Nat.and_two_pow_sub_one_eq_mod _ 5]
    rw [wrap_u64 (by omega)]
    omega
  rw [e]
  (try refine wk ?_)
  refine out1 rfl ⟨?_, rfl⟩
  show v32 _ = v32 _
  rw [show (32 - ((32 - r : Nat) : Int)).toNat = r by omega]
  unfold rotr
  rw [UInt32.or_comm]
theorem turn_any (x : UInt32) (r : Nat) (h : 1 ≤ r ∧ r ≤ 31) (w : World) : Calls Tryz.prog 230 #[v32 x, .int .u64 (r : Int)] w (Ret fun v w' => v = v32 (rotr x r) ∧ w' = w) := by
  refine enter [v32 x, .int .u64 (r : Int), undef, undef, undef, undef, undef, undef, undef, undef, undef, undef, undef] Tryz.func230 rfl rfl ?_
  (try refine wk ?_)
  refine out1 rfl ⟨?_, rfl⟩
  show v32 _ = v32 _
  rw [show (32 - (r : Int)).toNat = 32 - r by omega]
  rfl

/-! ### A block's words -/
theorem set_next {l : List UInt32} {n j : Nat} {x : UInt32} (hn : l.length < n) (hj : j = l.length) : ((l ++ List.replicate (n - l.length) 0).map v32).set j (v32 x) = ((l ++ [x]) ++ List.replicate (n - (l ++ [x]).length) 0).map v32 := by
  subst hj
  rw [← List.map_set]
  congr 1
  rw [List.set_append_right _ _ (Nat.le_refl _), Nat.sub_self, List.length_append, List.append_assoc]
  congr 1
  obtain ⟨m, hm⟩ : ∃ m, n - l.length = m + 1 := ⟨n - l.length - 1, by omega⟩
  rw [hm, show n - (l.length + [x].length) = m by simp; omega]
  rfl
theorem get_pad {l : List UInt32} {n j i : Nat} (e : j = i) (h : i < l.length) : ((l ++ List.replicate n 0).map v32)[j]? = some (v32 (l.getD i 0)) := by
  rw [mg' v32 0 e (by rw [List.length_append]; omega)]
  rw [List.getD_eq_getElem?_getD, List.getD_eq_getElem?_getD, List.getElem?_append_left h]
set_option maxHeartbeats 4000000 in
theorem schedule_any (bb o : Nat) (bs : List UInt8) (hl : bs.length = 64) (w : World) (hlt : bb < w.heap.size) (hR : w.rangeAt bb o (bs.map u8v)) :
    Calls Tryz.prog 247 #[.pointer (some ⟨bb, o, none⟩)] w (Ret fun v w' => v = .agg ((sch bs 64).map v32).toArray ∧ Ch [] w w') := by
  refine enter [.pointer (some ⟨bb, o, none⟩), undef, undef, undef, undef, undef, undef, undef, undef, undef, undef, undef, undef, undef, undef, undef, undef, undef, undef, undef, undef, undef, undef, undef, undef, undef, undef, undef, undef, undef, undef, undef, undef, undef, undef, undef, undef, undef, undef, undef, undef, undef, undef, undef, undef, undef, undef, undef, undef, undef, undef, undef, undef, undef, undef, undef, undef, undef, undef, undef, undef, undef, undef, undef, undef, undef, undef, undef, undef, undef, undef, undef, undef, undef, undef, undef, undef, undef, undef, undef, undef, undef, undef, undef, undef, undef, undef, undef, undef, undef, undef, undef, undef, undef] Tryz.func247 rfl rfl ?_
  (try refine wk ?_)
  refine wl_alloc (fun w1 c hc => ?_)
  (try refine wk ?_)
  refine wl_alloc (fun w2 bw hb => ?_)
  have hC : Blk w2 c (List.replicate 64 (Value.int .u32 0)) 246 := hc.blk.ch hb.ch (by simp)
  have hW : Blk w2 bw ((sch bs 0 ++ List.replicate (64 - 0) 0).map v32) 246 := hb.blk
  have hcw : c = w.heap.size := hc.at_
  have hbw : bw = c + 1 := by rw [hb.at_, hc.size]
  have hch : Ch [] w w2 := hc.ch.then hb.ch
  (try refine wk ?_)
  
  refine c_loop (fun k l w' => ∃ (i : Nat), (∃ jj : Nat → Value, l = [.pointer (some ⟨bb, o, none⟩), jj 1, .pointer (some ⟨c, 0, none⟩), .pointer (some ⟨bw, 0, none⟩), jj 4, jj 5, jj 6, jj 7, jj 8, .int .i64 (i : Int), jj 10, jj 11, jj 12, jj 13, jj 14, jj 15, jj 16, jj 17, jj 18, jj 19, jj 20, jj 21, jj 22, jj 23, jj 24, jj 25, jj 26, jj 27, jj 28, jj 29, jj 30, jj 31, jj 32, jj 33, jj 34, jj 35, jj 36, jj 37, jj 38, jj 39, jj 40, jj 41, jj 42, jj 43, jj 44, jj 45, jj 46, jj 47, jj 48, jj 49, jj 50, jj 51, jj 52, jj 53, jj 54, jj 55, jj 56, jj 57, jj 58, jj 59, jj 60, jj 61, jj 62, jj 63, jj 64, jj 65, jj 66, jj 67, jj 68, jj 69, jj 70, jj 71, jj 72, jj 73, jj 74, jj 75, jj 76, jj 77, jj 78, jj 79, jj 80, jj 81, jj 82, jj 83, jj 84, jj 85, jj 86, jj 87, jj 88, jj 89, jj 90, jj 91, jj 92, jj 93]) ∧ i + k = 64 ∧ Ch [] w w' ∧ Blk w' c (List.replicate 64 (Value.int .u32 0)) 246 ∧ Blk w' bw ((sch bs i ++ List.replicate (64 - (sch bs i).length) 0).map v32) 246) 64
    ⟨0, exj rfl, rfl, hch, hC, hW⟩ ?_
  rintro k l w3 ⟨i, ⟨jj, rfl⟩, hik, hch3, hC3, hW3⟩
  have hsl := sch_len bs i
  have hR3 := hch3.rangeAt hR hlt (by simp)
  have hlt3 : bb < w3.heap.size := Nat.lt_of_lt_of_le hlt hch3.size
  (try refine wk ?_)
  refine c_cond rfl (fun h => ?_) (fun h => ?_)
  · (try refine wk ?_)
    refine c_cond rfl (fun h16 => ?_) (fun h16 => ?_)
    · (try refine wk ?_)
      refine c_drawl 39 [] (by kernel_rfl) (by kernel_rfl) (by kernel_rfl) (fun w4 hc4 hs4 => ?_)
      have hR4 := hc4.rangeAt hR3 hlt3 (by simp)
      have hlt4 : bb < w4.heap.size := by omega
      have hW4 := hW3.ch hc4 (by simp)
      (try refine wkg ?_)
      refine ldrg_ (j := 4 * i) hR4 hlt4 (by simp) rfl (by omega) (mg u8v 0 (by omega)) ?_
      (try refine wkg ?_)
      refine ldrg_ (j := 4 * i + 1) hR4 hlt4 (by simp) rfl (by omega) (mg u8v 0 (by omega)) ?_
      (try refine wkg ?_)
      refine ldrg_ (j := 4 * i + 2) hR4 hlt4 (by simp) rfl (by omega) (mg u8v 0 (by omega)) ?_
      (try refine wkg ?_)
      refine ldrg_ (j := 4 * i + 3) hR4 hlt4 (by simp) rfl (by omega) (mg u8v 0 (by omega)) ?_
      (try refine wkg ?_)
      refine lastg rfl (by kernel_rfl) (fun w5 hc5 => ?_)
      refine stb (v := v32 (word bs i)) (hW4.ch hc5 (by simp)) rfl rfl rfl rfl (by simp; omega) (fun w6 hB6 hch6 hs6 => ?_)
      rw [set_next (by omega) (by omega)] at hB6
      refine x_last rfl rfl (fun w7 hc7 => ?_)
      (try refine wk ?_)
      refine x_goes (k - 1) rfl (by omega) ⟨i + 1, exj rfl, by omega, ?_, ?_, ?_⟩
      · exact (((hch3.then hc4).then hc5).own hch6 (by omega)).then hc7
      · exact (((hC3.ch hc4 (by simp)).ch hc5 (by simp)).ch hch6 (by simp; omega)).ch hc7 (by simp)
      · have := hB6.ch hc7 (by simp)
        have e : nextW bs (sch bs i) = word bs i := by unfold nextW; rw [hsl, if_pos (by omega)]
        rw [sch, e]
        exact this
    · (try refine wk ?_)
      refine c_draw [] (by kernel_rfl) (by kernel_rfl) (fun w4 hc4 hs4 => ?_)
      have hW4 := hW3.ch hc4 (by simp)
      (try refine wkg ?_)
      refine ldbg hW4 (by simp) rfl (get_pad (i := i - 15) (by omega) (by omega)) ?_
      (try refine wkg ?_)
      refine ldbg hW4 (by simp) rfl (get_pad (i := i - 2) (by omega) (by omega)) ?_
      (try refine wkg ?_)
      intro w5 hc5
      (try refine wk ?_)
      (try ((with_reducible apply is_gd); first | refine gt ?_ | refine gf ?_ | refine gu ?_)); refine ca (rotl_any _ 7 (by omega) _) ?_
      rintro _ _ ⟨rfl, rfl⟩
      (try refine wk ?_)
      (try ((with_reducible apply is_gd); first | refine gt ?_ | refine gf ?_ | refine gu ?_)); refine ca (rotl_any _ 18 (by omega) _) ?_
      rintro _ _ ⟨rfl, rfl⟩
      (try refine wk ?_)
      (try ((with_reducible apply is_gd); first | refine gt ?_ | refine gf ?_ | refine gu ?_)); refine ca (rotl_any _ 17 (by omega) _) ?_
      rintro _ _ ⟨rfl, rfl⟩
      (try refine wk ?_)
      (try ((with_reducible apply is_gd); first | refine gt ?_ | refine gf ?_ | refine gu ?_)); refine ca (rotl_any _ 19 (by omega) _) ?_
      rintro _ w5 ⟨rfl, rfl⟩
      (try refine wk ?_)
      refine c_drawl 15 [] (by kernel_rfl) (by kernel_rfl) (by kernel_rfl) (fun w6 hc6 hs6 => ?_)
      have hW6 := (hW4.ch hc5 (by simp)).ch hc6 (by simp)
      (try refine wkg ?_)
      refine ldbg hW6 (by simp) rfl (get_pad (i := i - 16) (by omega) (by omega)) ?_
      (try refine wkg ?_)
      refine ldbg hW6 (by simp) rfl (get_pad (i := i - 7) (by omega) (by omega)) ?_
      (try refine wkg ?_)
      refine lastg rfl (by kernel_rfl) (fun w7 hc7 => ?_)
      have e : nextW bs (sch bs i) = (((sch bs i).getD (i - 16) 0 + sg0 ((sch bs i).getD (i - 15) 0)) + (sch bs i).getD (i - 7) 0) + sg1 ((sch bs i).getD (i - 2) 0) := by unfold nextW; rw [hsl, if_neg (by omega)]
      refine stb (v := v32 ((((sch bs i).getD (i - 16) 0 + sg0 ((sch bs i).getD (i - 15) 0)) + (sch bs i).getD (i - 7) 0) + sg1 ((sch bs i).getD (i - 2) 0))) (hW6.ch hc7 (by simp)) rfl rfl rfl rfl (by simp; omega) (fun w8 hB8 hch8 hs8 => ?_)
      rw [set_next (by omega) (by omega), ← e] at hB8
      refine x_last rfl rfl (fun w9 hc9 => ?_)
      (try refine wk ?_)
      refine x_goes (k - 1) rfl (by omega) ⟨i + 1, exj rfl, by omega, ?_, ?_, ?_⟩
      · exact ((((hch3.then hc4).then (hc5.then hc6)).then hc7).own hch8 (by omega)).then hc9
      · exact (((((hC3.ch hc4 (by simp)).ch hc5 (by simp)).ch hc6 (by simp)).ch hc7 (by simp)).ch hch8 (by simp; omega)).ch hc9 (by simp)
      · exact hB8.ch hc9 (by simp)
  · (try refine wk ?_)
    obtain rfl : i = 64 := by omega
    have hz : (sch bs 64 ++ List.replicate (64 - (sch bs 64).length) 0) = sch bs 64 := by rw [hsl]; simp
    rw [hz] at hW3
    refine ldbr hW3 rfl (ds := (sch bs 64).map v32) (by simp [List.take_of_length_le, hsl]) (by simp [hsl]) ?_
    (try refine wk ?_)
    refine stbw hC3 rfl rfl (by simp [hsl]) (by simp) (by intro u hu; obtain ⟨x, _, rfl⟩ := List.mem_map.1 hu; rfl) (fun w4 hB4 hch4 hs4 => ?_)
    (try refine wk ?_)
    exact outc rfl rfl (hB4.row (n := 64) (o := 0) (ds := (sch bs 64).map v32) (by simp [List.take_of_length_le, hsl])) (by simp [hsl]) ⟨rfl, hch3.own hch4 (by omega)⟩
end Go.Proofs.YtoimhmphhffelaaGreatDoor
set_option linter.unusedVariables false
set_option linter.unusedSimpArgs false
namespace Go.Proofs.YtoimhmphhffelaaGreatDoor
open Go Go.RowKit Go.Proofs.E
attribute [local irreducible] Go.wpList Go.Code.wp Go.Proofs.E.exec Go.Proofs.E.wpLexG

def K256 : List UInt32 := [0x428a2f98, 0x71374491, 0xb5c0fbcf, 0xe9b5dba5, 0x3956c25b, 0x59f111f1, 0x923f82a4, 0xab1c5ed5, 0xd807aa98, 0x12835b01, 0x243185be, 0x550c7dc3, 0x72be5d74, 0x80deb1fe, 0x9bdc06a7, 0xc19bf174, 0xe49b69c1, 0xefbe4786, 0x0fc19dc6, 0x240ca1cc, 0x2de92c6f, 0x4a7484aa, 0x5cb0a9dc, 0x76f988da, 0x983e5152, 0xa831c66d, 0xb00327c8, 0xbf597fc7, 0xc6e00bf3, 0xd5a79147, 0x06ca6351, 0x14292967, 0x27b70a85, 0x2e1b2138, 0x4d2c6dfc, 0x53380d13, 0x650a7354, 0x766a0abb, 0x81c2c92e, 0x92722c85, 0xa2bfe8a1, 0xa81a664b, 0xc24b8b70, 0xc76c51a3, 0xd192e819, 0xd6990624, 0xf40e3585, 0x106aa070, 0x19a4c116, 0x1e376c08, 0x2748774c, 0x34b0bcb5, 0x391c0cb3, 0x4ed8aa4a, 0x5b9cca4f, 0x682e6ff3, 0x748f82ee, 0x78a5636f, 0x84c87814, 0x8cc70208, 0x90befffa, 0xa4506ceb, 0xbef9a3f7, 0xc67178f2]
structure S8 where (a b c d e f g h : UInt32)
def S8.l (s : S8) : List UInt32 := [s.a, s.b, s.c, s.d, s.e, s.f, s.g, s.h]
def S1 (e : UInt32) : UInt32 := (rotr e 6 ^^^ rotr e 11) ^^^ rotr e 25
def S0 (a : UInt32) : UInt32 := (rotr a 2 ^^^ rotr a 13) ^^^ rotr a 22
def chz (e f g : UInt32) : UInt32 := g ^^^ (e &&& (f ^^^ g))
def maj (a b c : UInt32) : UInt32 := (a &&& b) ||| (c &&& (a ||| b))
def tmp (k w : UInt32) (s : S8) : UInt32 := (((s.h + S1 s.e) + chz s.e s.f s.g) + k) + w
def rnd (k w : UInt32) (s : S8) : S8 := ⟨(tmp k w s + S0 s.a) + maj s.a s.b s.c, s.a, s.b, s.c, s.d + tmp k w s, s.e, s.f, s.g⟩
def runs (W : List UInt32) : Nat → S8 → S8
  | 0, s => s
  | n + 1, s => rnd (K256.getD n 0) (W.getD n 0) (runs W n s)
def S8.add (x y : S8) : S8 := ⟨x.a + y.a, x.b + y.b, x.c + y.c, x.d + y.d, x.e + y.e, x.f + y.f, x.g + y.g, x.h + y.h⟩
/-- What a block makes of a state. -/
def squeeze (h : S8) (b : List UInt8) : S8 := h.add (runs (sch b 64) 64 h)
/-- The table that the program's variable holds. -/
def Laid (w : World) : Prop := 10 < w.heap.size ∧ w.rangeAt 10 0 (K256.map v32)
theorem Laid.ch {S : List Nat} {w w' : World} (h : Laid w) (hc : Ch S w w') (hS : 10 ∉ S) : Laid w' := ⟨Nat.lt_of_lt_of_le h.1 hc.size, hc.rangeAt h.2 h.1 hS⟩
/-- A state's cells. -/
def stc (h : S8) (rest : List UInt8) (n : Int) (m : Bool) : List Value := h.l.map v32 ++ (rest.map u8v ++ [.int .i64 n, .bool m])
theorem rotl_g (x : UInt32) (r : Nat) (h : 1 ≤ r ∧ r ≤ 31) {S : List Nat} {w : World} : ∀ w1, Ch S w w1 → Calls Tryz.prog 248 #[v32 x, .int .i64 (-(r : Int))] w1 (Ret fun v w2 => v = v32 (rotr x r) ∧ Ch S w1 w2) :=
  fun w1 _ => (rotl_any x r h w1).mono fun e w2 ⟨v, h1, h2, h3⟩ => ⟨v, h1, h2, by rw [h3]; exact Ch.refl _ _⟩
theorem turn_g (x : UInt32) (r : Nat) (h : 1 ≤ r ∧ r ≤ 31) {S : List Nat} {w : World} : ∀ w1, Ch S w w1 → Calls Tryz.prog 230 #[v32 x, .int .u64 (r : Int)] w1 (Ret fun v w2 => v = v32 (rotr x r) ∧ Ch S w1 w2) :=
  fun w1 _ => (turn_any x r h w1).mono fun e w2 ⟨v, h1, h2, h3⟩ => ⟨v, h1, h2, by rw [h3]; exact Ch.refl _ _⟩
/-! ### The words' sums, one by one -/
def mix (x y : List UInt32) (i : Nat) : List UInt32 := (List.range 8).map fun j => if j < i then x.getD j 0 + y.getD j 0 else x.getD j 0
theorem mix_len (x y : List UInt32) (i : Nat) : (mix x y i).length = 8 := by simp [mix]
theorem mix_get (x y : List UInt32) {i j : Nat} (h : j < 8) : (mix x y i).getD j 0 = if j < i then x.getD j 0 + y.getD j 0 else x.getD j 0 := by
  rw [List.getD_eq_getElem?_getD]
  simp [mix, h]
theorem mix_set (x y : List UInt32) {i : Nat} (h : i < 8) : (mix x y i).set i (x.getD i 0 + y.getD i 0) = mix x y (i + 1) := by
  apply List.ext_getElem?
  intro j
  by_cases hj : j < 8
  · rw [List.getElem?_set]
    by_cases hij : i = j
    · subst hij
      simp [mix, hj]
    · rw [if_neg hij]
      simp only [mix, List.getElem?_map, List.getElem?_range hj, Option.map_some]
      congr 1
      by_cases hlt : j < i
      · rw [if_pos hlt, if_pos (by omega)]
      · rw [if_neg hlt, if_neg (by omega)]
  · rw [List.getElem?_eq_none (by simp [mix_len]; omega), List.getElem?_eq_none (by simp [mix_len]; omega)]
theorem mix_all (s t : S8) : mix s.l t.l 8 = (s.add t).l := rfl

set_option maxHeartbeats 8000000 in
theorem block_any (b : Nat) (E : TypeId) (h : S8) (bs : List UInt8) (hl : bs.length = 64) (n : Int) (m : Bool) (w : World) (hB : Blk w b (stc h bs n m) E) (hK : Laid w) (hb2 : b ≠ 10) :
    Calls Tryz.prog 245 #[.pointer (some ⟨b, 0, none⟩)] w (Ret fun v w' => v = .tuple #[] ∧ Blk w' b (stc (squeeze h bs) bs n m) E ∧ Ch [b] w w') := by
  refine enter [.pointer (some ⟨b, 0, none⟩), undef, undef, undef, undef, undef, undef, undef, undef, undef, undef, undef, undef, undef, undef, undef, undef, undef, undef, undef, undef, undef, undef, undef, undef, undef, undef, undef, undef, undef, undef, undef, undef, undef, undef, undef, undef, undef, undef, undef, undef, undef, undef, undef, undef, undef, undef, undef, undef, undef, undef, undef, undef, undef, undef, undef, undef, undef, undef, undef, undef, undef, undef, undef, undef, undef, undef, undef, undef, undef, undef, undef, undef, undef, undef, undef, undef, undef, undef, undef, undef, undef, undef, undef, undef, undef, undef, undef, undef, undef, undef, undef, undef, undef, undef, undef, undef, undef, undef, undef, undef, undef, undef, undef, undef, undef, undef, undef, undef, undef, undef, undef, undef, undef, undef, undef, undef, undef, undef, undef, undef, undef, undef] Tryz.func245 rfl rfl ?_
  have hblt := hB.lt
  (try refine wk ?_)
  (try ((with_reducible apply is_gd); first | refine gt ?_ | refine gf ?_ | refine gu ?_)); refine ca (schedule_any b 8 bs hl w hblt (hB.row (n := 64) (o := 8) (by simp [stc, S8.l, List.take_append_of_le_length, hl]))) ?_
  rintro _ w1 ⟨rfl, hc1⟩
  (try refine wk ?_)
  refine wl_alloc (fun w2 bw hw => ?_)
  (try refine wk ?_)
  have hsl := sch_len bs 64
  generalize hWW : sch bs 64 = W at hsl
  have hc2 : Ch [] w w2 := hc1.then hw.ch
  have hbw : w.heap.size ≤ bw := by rw [hw.at_]; exact hc1.size
  refine stbw (n := 64) hw.blk rfl rfl (by simp [hsl]) rfl (by intro u hu; obtain ⟨x, _, rfl⟩ := List.mem_map.1 hu; rfl) (fun w3 hW3 hch3 hs3 => ?_)
  have hc3 : Ch [] w w3 := hc2.own hch3 hbw
  (try refine wk ?_)
  refine ldbr (hB.ch hc3 (by simp)) rfl (ds := h.l.map v32) (by simp [stc, S8.l]) rfl ?_
  (try refine wk ?_)
  refine wl_alloc (fun w4 bv hv => ?_)
  (try refine wk ?_)
  have hbv : w.heap.size ≤ bv := by rw [hv.at_]; exact hc3.size
  have hbwv : bw ≠ bv := by have := hW3.lt; rw [hv.at_]; omega
  refine stbw (n := 8) hv.blk rfl rfl rfl rfl (by intro u hu; obtain ⟨x, _, rfl⟩ := List.mem_map.1 hu; rfl) (fun w5 hV5 hch5 hs5 => ?_)
  have hc5 : Ch [] w w5 := (hc3.then hv.ch).own hch5 hbv
  have hW5 : Blk w5 bw (W.map v32) 246 := (hW3.ch hv.ch (by simp)).ch hch5 (by simp; omega)
  (try refine wk ?_)
  
  refine c_loop (fun k l w' => ∃ (i : Nat), (∃ jj : Nat → Value, l = [.pointer (some ⟨b, 0, none⟩), jj 1, .pointer (some ⟨bw, 0, none⟩), .pointer (some ⟨bv, 0, none⟩), jj 4, jj 5, jj 6, jj 7, jj 8, jj 9, jj 10, jj 11, jj 12, jj 13, jj 14, jj 15, jj 16, jj 17, jj 18, .int .i64 (i : Int), jj 20, jj 21, jj 22, jj 23, jj 24, jj 25, jj 26, jj 27, jj 28, jj 29, jj 30, jj 31, jj 32, jj 33, jj 34, jj 35, jj 36, jj 37, jj 38, jj 39, jj 40, jj 41, jj 42, jj 43, jj 44, jj 45, jj 46, jj 47, jj 48, jj 49, jj 50, jj 51, jj 52, jj 53, jj 54, jj 55, jj 56, jj 57, jj 58, jj 59, jj 60, jj 61, jj 62, jj 63, jj 64, jj 65, jj 66, jj 67, jj 68, jj 69, jj 70, jj 71, jj 72, jj 73, jj 74, jj 75, jj 76, jj 77, jj 78, jj 79, jj 80, jj 81, jj 82, jj 83, jj 84, jj 85, jj 86, jj 87, jj 88, jj 89, jj 90, jj 91, jj 92, jj 93, jj 94, jj 95, jj 96, jj 97, jj 98, jj 99, jj 100, jj 101, jj 102, jj 103, jj 104, jj 105, jj 106, jj 107, jj 108, jj 109, jj 110, jj 111, jj 112, jj 113, jj 114, jj 115, jj 116, jj 117, jj 118, jj 119, jj 120, jj 121, jj 122]) ∧ i + k = 64 ∧ Ch [] w w' ∧ Blk w' bw (W.map v32) 246 ∧ Blk w' bv ((runs W i h).l.map v32) 232) 64
    ⟨0, exj rfl, rfl, hc5, hW5, hV5⟩ ?_
  rintro k l w6 ⟨i, ⟨jj, rfl⟩, hik, hc6, hW6, hV6⟩
  generalize hs : runs W i h = s at hV6
  (try refine wk ?_)
  refine c_cond rfl (fun h64 => ?_) (fun h64 => ?_)
  · (try refine wk ?_)
    refine c_draw [] (by kernel_rfl) (by kernel_rfl) (fun w7 hc7 hs7 => ?_)
    have hV7 := hV6.ch hc7 (by simp)
    (try refine wkg ?_)
    refine ldbg (v := v32 s.e) hV7 (by simp) rfl rfl ?_
    (try refine wkg ?_)
    (try ((with_reducible apply is_gg); first | refine gtg ?_ | refine gfg ?_ | refine gug ?_)); refine cag (rotl_g _ 6 (by omega)) ?_
    (try refine wkg ?_)
    refine ldbg (v := v32 s.e) hV7 (by simp) rfl rfl ?_
    (try refine wkg ?_)
    (try ((with_reducible apply is_gg); first | refine gtg ?_ | refine gfg ?_ | refine gug ?_)); refine cag (rotl_g _ 11 (by omega)) ?_
    (try refine wkg ?_)
    refine ldbg (v := v32 s.e) hV7 (by simp) rfl rfl ?_
    (try refine wkg ?_)
    (try ((with_reducible apply is_gg); first | refine gtg ?_ | refine gfg ?_ | refine gug ?_)); refine cag (rotl_g _ 25 (by omega)) ?_
    (try refine wkg ?_)
    intro w8 hc8
    (try refine wk ?_)
    refine c_draw [] (by kernel_rfl) (by kernel_rfl) (fun w9 hc9 hs9 => ?_)
    have hV9 := (hV7.ch hc8 (by simp)).ch hc9 (by simp)
    (try refine wkg ?_)
    refine ldbg (v := v32 s.a) hV9 (by simp) rfl rfl ?_
    (try refine wkg ?_)
    (try ((with_reducible apply is_gg); first | refine gtg ?_ | refine gfg ?_ | refine gug ?_)); refine cag (rotl_g _ 2 (by omega)) ?_
    (try refine wkg ?_)
    refine ldbg (v := v32 s.a) hV9 (by simp) rfl rfl ?_
    (try refine wkg ?_)
    (try ((with_reducible apply is_gg); first | refine gtg ?_ | refine gfg ?_ | refine gug ?_)); refine cag (rotl_g _ 13 (by omega)) ?_
    (try refine wkg ?_)
    refine ldbg (v := v32 s.a) hV9 (by simp) rfl rfl ?_
    (try refine wkg ?_)
    (try ((with_reducible apply is_gg); first | refine gtg ?_ | refine gfg ?_ | refine gug ?_)); refine cag (rotl_g _ 22 (by omega)) ?_
    (try refine wkg ?_)
    intro w10 hc10
    have hV10 := hV9.ch hc10 (by simp)
    have hc10' : Ch [] w6 w10 := ((hc7.then hc8).then hc9).then hc10
    (try refine wk ?_)
    refine ldb (v := v32 s.g) hV10 rfl rfl ?_
    (try refine wk ?_)
    refine ldb (v := v32 s.e) hV10 rfl rfl ?_
    (try refine wk ?_)
    refine ldb (v := v32 s.f) hV10 rfl rfl ?_
    (try refine wk ?_)
    refine ldb (v := v32 s.g) hV10 rfl rfl ?_
    (try refine wk ?_)
    refine ldb (v := v32 s.a) hV10 rfl rfl ?_
    (try refine wk ?_)
    refine ldb (v := v32 s.b) hV10 rfl rfl ?_
    (try refine wk ?_)
    refine ldb (v := v32 s.c) hV10 rfl rfl ?_
    (try refine wk ?_)
    refine ldb (v := v32 s.a) hV10 rfl rfl ?_
    (try refine wk ?_)
    refine ldb (v := v32 s.b) hV10 rfl rfl ?_
    (try refine wk ?_)
    refine c_draw [] (by kernel_rfl) (by kernel_rfl) (fun w11 hc11 hs11 => ?_)
    have hV11 := hV10.ch hc11 (by simp)
    have hc11' := hc10'.then hc11
    have hK11 := hK.ch (hc6.then hc11') (by simp)
    (try refine wkg ?_)
    refine ldbg (v := v32 s.h) hV11 (by simp) rfl rfl ?_
    (try refine wkg ?_)
    refine ldrg_ (j := i) hK11.2 hK11.1 (by simp) rfl (by omega) (mg v32 0 (by show i < 64; omega)) ?_
    (try refine wkg ?_)
    refine ldbg (hW6.ch hc11' (by simp)) (by simp) rfl (mg' v32 (i := i) 0 (by omega) (by omega)) ?_
    (try refine wkg ?_)
    intro w12 hc12
    have hV12 := hV11.ch hc12 (by simp)
    have hc12' := hc11'.then hc12
    (try refine wk ?_)
    refine ldb (v := v32 s.a) hV12 rfl rfl ?_
    (try refine wk ?_)
    refine ldb (v := v32 s.b) hV12 rfl rfl ?_
    (try refine wk ?_)
    refine ldb (v := v32 s.c) hV12 rfl rfl ?_
    (try refine wk ?_)
    refine ldb (v := v32 s.d) hV12 rfl rfl ?_
    (try refine wk ?_)
    refine ldb (v := v32 s.e) hV12 rfl rfl ?_
    (try refine wk ?_)
    refine ldb (v := v32 s.f) hV12 rfl rfl ?_
    (try refine wk ?_)
    refine ldb (v := v32 s.g) hV12 rfl rfl ?_
    (try refine wk ?_)
    refine wl_val (r_build_arr (vs := (rnd (K256.getD i 0) (W.getD i 0) s).l.map v32) rfl rfl (by intro u hu; obtain ⟨x, _, rfl⟩ := List.mem_map.1 hu; rfl)) ?_
    refine stbw (n := 8) (vs := (rnd (K256.getD i 0) (W.getD i 0) s).l.map v32) hV12 rfl rfl rfl rfl (by intro u hu; obtain ⟨x, _, rfl⟩ := List.mem_map.1 hu; rfl) (fun w13 hV13 hch13 hs13 => ?_)
    have hc13 : Ch [] w w13 := (hc6.then hc12').own hch13 hbv
    have hW13 := (hW6.ch hc12' (by simp)).ch hch13 (by simp; omega)
    (try refine wk ?_)
    refine x_goes (k - 1) rfl (by omega) ⟨i + 1, exj rfl, by omega, hc13, hW13, ?_⟩
    rw [runs, hs]
    exact hV13
  · (try refine wk ?_)
    obtain rfl : i = 64 := by omega
    have hB6 := hB.ch hc6 (by simp)
    
    refine c_loop (fun k l w' => ∃ (i : Nat), (∃ jj : Nat → Value, l = [.pointer (some ⟨b, 0, none⟩), jj 1, jj 2, .pointer (some ⟨bv, 0, none⟩), jj 4, jj 5, jj 6, jj 7, jj 8, jj 9, jj 10, jj 11, jj 12, jj 13, jj 14, jj 15, jj 16, jj 17, jj 18, jj 19, jj 20, jj 21, jj 22, jj 23, jj 24, jj 25, jj 26, jj 27, jj 28, jj 29, jj 30, jj 31, jj 32, jj 33, jj 34, jj 35, jj 36, jj 37, jj 38, jj 39, jj 40, jj 41, jj 42, jj 43, jj 44, jj 45, jj 46, jj 47, jj 48, jj 49, jj 50, jj 51, jj 52, jj 53, jj 54, jj 55, jj 56, jj 57, jj 58, jj 59, jj 60, jj 61, jj 62, jj 63, jj 64, jj 65, jj 66, jj 67, jj 68, jj 69, jj 70, jj 71, jj 72, jj 73, jj 74, jj 75, jj 76, jj 77, jj 78, jj 79, jj 80, jj 81, jj 82, jj 83, jj 84, jj 85, jj 86, jj 87, jj 88, jj 89, jj 90, jj 91, jj 92, jj 93, jj 94, jj 95, jj 96, jj 97, jj 98, jj 99, jj 100, jj 101, jj 102, jj 103, jj 104, jj 105, .int .i64 (i : Int), jj 107, jj 108, jj 109, jj 110, jj 111, jj 112, jj 113, jj 114, jj 115, jj 116, jj 117, jj 118, jj 119, jj 120, jj 121, jj 122]) ∧ i + k = 8 ∧ Ch [b] w w' ∧ Blk w' b ((mix h.l s.l i).map v32 ++ (bs.map u8v ++ [.int .i64 n, .bool m])) E ∧ Blk w' bv (s.l.map v32) 232) 8
      ⟨0, exj rfl, rfl, hc6.some, hB6, hV6⟩ ?_
    rintro k l w7 ⟨i, ⟨jj, rfl⟩, hik, hc7, hB7, hV7⟩
    have hml := mix_len h.l s.l i
    (try refine wk ?_)
    refine c_cond rfl (fun h8 => ?_) (fun h8 => ?_)
    · (try refine wk ?_)
      refine c_drawl 13 [] (by kernel_rfl) (by kernel_rfl) (by kernel_rfl) (fun w8 hc8 hs8 => ?_)
      have hB8 := hB7.ch hc8 (by simp)
      have hV8 := hV7.ch hc8 (by simp)
      (try refine wkg ?_)
      refine ldbg (v := v32 (h.l.getD i 0)) hB8 (by simp) rfl (by
        rw [List.getElem?_append_left (by rw [List.length_map, hml]; omega), mg' v32 (i := i) 0 (by omega) (by omega), mix_get _ _ (by omega), if_neg (by omega)]) ?_
      (try refine wkg ?_)
      refine ldbg (v := v32 (s.l.getD i 0)) hV8 (by simp) rfl (mg' v32 (i := i) 0 (by omega) (by show i < 8; omega)) ?_
      (try refine wkg ?_)
      refine lastg rfl (by kernel_rfl) (fun w9 hc9 => ?_)
      refine stb (v := v32 (h.l.getD i 0 + s.l.getD i 0)) (hB8.ch hc9 (by simp)) rfl rfl rfl rfl (by simp [hml]; omega) (fun w10 hB10 hch10 hs10 => ?_)
      rw [List.set_append_left _ _ (by rw [List.length_map, hml]; omega), ← List.map_set, show 0 + 0 + ((i : Int)).toNat * 1 = i by omega, mix_set _ _ (by omega)] at hB10
      refine x_last rfl rfl (fun w11 hc11 => ?_)
      (try refine wk ?_)
      refine x_goes (k - 1) rfl (by omega) ⟨i + 1, exj rfl, by omega, ?_, hB10.ch hc11 (by simp), ?_⟩
      · exact ((((hc7.add hc8).add hc9)).into hch10 (.inr (by simp))).add hc11
      · exact ((hV8.ch hc9 (by simp)).ch hch10 (by simp; omega)).ch hc11 (by simp)
    · (try refine wk ?_)
      obtain rfl : i = 8 := by omega
      refine out0 rfl ⟨rfl, ?_, hc7⟩
      rw [mix_all] at hB7
      subst hWW
      subst hs
      exact hB7
end Go.Proofs.YtoimhmphhffelaaGreatDoor
set_option linter.unusedVariables false
set_option linter.unusedSimpArgs false
namespace Go.Proofs.YtoimhmphhffelaaGreatDoor
open Go Go.RowKit Go.Proofs.E
attribute [local irreducible] Go.wpList Go.Code.wp Go.Proofs.E.exec Go.Proofs.E.wpLexG

/-! ### Byte by byte -/
structure St where (h : S8) (rest : List UInt8) (n : Nat)
def put1 (s : St) (x : UInt8) : St := ⟨if (s.n + 1) % 64 = 0 then squeeze s.h (s.rest.set (s.n % 64) x) else s.h, s.rest.set (s.n % 64) x, s.n + 1⟩
def splU (cs : List UInt8) (o : Nat) (vs : List UInt8) : List UInt8 := cs.take o ++ vs ++ cs.drop (o + vs.length)
theorem splU_map (cs : List UInt8) (o : Nat) (vs : List UInt8) : (splU cs o vs).map u8v = spl (cs.map u8v) o (vs.map u8v) := by
  simp [splU, spl, List.map_take, List.map_drop]
theorem splU_len {cs : List UInt8} {o : Nat} {vs : List UInt8} (h : o + vs.length ≤ cs.length) : (splU cs o vs).length = cs.length := by
  simp [splU]; omega
theorem splU_one {cs : List UInt8} {o : Nat} {v : UInt8} (h : o < cs.length) : splU cs o [v] = cs.set o v := by
  unfold splU
  rw [List.set_eq_take_append_cons_drop, if_pos h]
  simp
theorem splU_cons {cs : List UInt8} {o : Nat} {v : UInt8} {vs : List UInt8} (h : o + (v :: vs).length ≤ cs.length) : splU (cs.set o v) (o + 1) vs = splU cs o (v :: vs) := by
  simp only [List.length_cons] at h
  unfold splU
  rw [List.take_set, List.drop_set, if_pos (by omega), List.length_cons, show o + 1 + vs.length = o + (vs.length + 1) by omega]
  rw [List.set_eq_take_append_cons_drop, if_pos (by simp; omega), List.take_take, Nat.min_eq_left (by omega), List.drop_eq_nil_of_le (by simp; omega)]
  simp
theorem put_chunk : ∀ (cs : List UInt8) (s : St), cs ≠ [] → s.n % 64 + cs.length ≤ 64 → s.rest.length = 64 →
    cs.foldl put1 s = ⟨if (s.n + cs.length) % 64 = 0 then squeeze s.h (splU s.rest (s.n % 64) cs) else s.h, splU s.rest (s.n % 64) cs, s.n + cs.length⟩
  | [], s, h, _, _ => absurd rfl h
  | [x], s, _, h, hl => by
    rw [splU_one (by omega)]
    rfl
  | x :: y :: cs, s, _, h, hl => by
    simp only [List.length_cons] at h
    rw [List.foldl_cons, put_chunk (y :: cs) (put1 s x) (by simp) (by simp only [put1, List.length_cons]; omega) (by simp [put1, hl])]
    have e1 : (s.n + 1) % 64 = s.n % 64 + 1 := by omega
    simp only [put1, e1, if_neg (show ¬ s.n % 64 + 1 = 0 by omega), List.length_cons]
    rw [splU_cons (by simp; omega), show s.n + 1 + (cs.length + 1) = s.n + (cs.length + 1 + 1) by omega]
theorem stc_n {h : S8} {rest : List UInt8} {n : Int} {m : Bool} (hl : rest.length = 64) : (stc h rest n m)[72]? = some (.int .i64 n) := by
  unfold stc
  rw [List.getElem?_append_right (by simp [S8.l]), List.getElem?_append_right (by simp [S8.l, hl])]
  simp [S8.l, hl]
theorem stc_setn {h : S8} {rest : List UInt8} {n n' : Int} {m : Bool} (hl : rest.length = 64) : (stc h rest n m).set 72 (.int .i64 n') = stc h rest n' m := by
  unfold stc
  rw [List.set_append_right _ _ (by simp [S8.l]), List.set_append_right _ _ (by simp [S8.l, hl])]
  simp [S8.l, hl]
theorem stc_spl {h : S8} {rest cs : List UInt8} {n : Int} {m : Bool} {j : Nat} (hl : rest.length = 64) (hj : j + cs.length ≤ 64) : spl (stc h rest n m) (8 + j) (cs.map u8v) = stc h (splU rest j cs) n m := by
  unfold stc
  rw [spl_app (by simp [S8.l]) (by simp [hl]; omega) j (by simp [hl]; omega), splU_map]
theorem stc_len {h : S8} {rest : List UInt8} {n : Int} {m : Bool} (hl : rest.length = 64) : (stc h rest n m).length = 74 := by simp [stc, S8.l, hl]

set_option maxHeartbeats 8000000 in
theorem take_any (b : Nat) (E : TypeId) (s : St) (hl : s.rest.length = 64) (m : Bool) (v : Value) (bs : List UInt8) (w : World) (hB : Blk w b (stc s.h s.rest s.n m) E) (hK : Laid w) (hb2 : b ≠ 10)
    (hR : (Ty.enc eU8).Rd [b] w v bs) (hn : s.n + bs.length ≤ 4611686018427387904) :
    Calls Tryz.prog 234 #[.pointer (some ⟨b, 0, none⟩), v] w (Ret fun u w' => u = .tuple #[] ∧ Blk w' b (stc (bs.foldl put1 s).h (bs.foldl put1 s).rest (bs.foldl put1 s).n m) E ∧ Ch [b] w w') := by
  refine enter [.pointer (some ⟨b, 0, none⟩), v, undef, undef, undef, undef, undef, undef, undef, undef, undef, undef, undef, undef, undef, undef, undef, undef, undef, undef, undef, undef, undef, undef, undef, undef, undef, undef, undef, undef, undef, undef, undef, undef, undef, undef, undef, undef] Tryz.func234 rfl rfl ?_
  have hblt := hB.lt
  (try refine wk ?_)
  
  refine c_loop (fun k l w' => ∃ (u : Value) (s' : St) (cs : List UInt8), (∃ jj : Nat → Value, l = [.pointer (some ⟨b, 0, none⟩), u, jj 2, jj 3, jj 4, jj 5, jj 6, jj 7, jj 8, jj 9, jj 10, jj 11, jj 12, jj 13, jj 14, jj 15, jj 16, jj 17, jj 18, jj 19, jj 20, jj 21, jj 22, jj 23, jj 24, jj 25, jj 26, jj 27, jj 28, jj 29, jj 30, jj 31, jj 32, jj 33, jj 34, jj 35, jj 36, jj 37]) ∧ cs.length = k ∧ cs.foldl put1 s' = bs.foldl put1 s ∧ s'.rest.length = 64 ∧ s'.n + cs.length = s.n + bs.length ∧ Ch [b] w w' ∧ (Ty.enc eU8).Rd [b] w' u cs ∧ Blk w' b (stc s'.h s'.rest s'.n m) E) bs.length
    ⟨v, s, bs, exj rfl, rfl, rfl, hl, rfl, Ch.refl _ _, hR, hB⟩ ?_
  rintro k l w3 ⟨u, s', cs, ⟨jj, rfl⟩, rfl, hfold, hl3, hn3, hc3, hR3, hB3⟩
  obtain ⟨A, cap, rfl⟩ := hR3.form
  (try refine wk ?_)
  refine c_cond rfl (fun h => ?_) (fun h => ?_)
  · have hne : cs ≠ [] := by intro e; subst e; simp at h
    obtain ⟨b2, o2, cap2, hv, hb2lt, hb2S, hrow⟩ := row8 hR3 hne
    injection hv with hA _ hcap
    subst hA
    have tm : ((s'.n : Int)).tmod 64 = ((s'.n % 64 : Nat) : Int) := rfl
    have hpos : 0 < cs.length := List.length_pos_iff.2 hne
    obtain ⟨kk, hkk⟩ : ∃ kk, kk = Nat.min cs.length (64 - s'.n % 64) := ⟨_, rfl⟩
    have hkl : kk ≤ cs.length := hkk ▸ Nat.min_le_left _ _
    have hkr : kk ≤ 64 - s'.n % 64 := hkk ▸ Nat.min_le_right _ _
    have hk0 : 0 < kk := by rw [hkk]; show 0 < min _ _; omega
    have htl : (cs.take kk).length = kk := by simp; omega
    (try refine wk ?_)
    refine c_drawl 10 [] (by kernel_rfl) (by kernel_rfl) (by kernel_rfl) (fun w4 hc4 hs4 => ?_)
    have hB4 := hB3.ch hc4 (by simp)
    (try refine wkg ?_)
    refine ldbg (v := .int .i64 (s'.n : Int)) hB4 (by simp) rfl (stc_n hl3) ?_
    (try refine wkg ?_)
    rw [tm]
    refine wg_val (fun _ _ => r_cut_arr rfl rfl (by omega) (by omega)) ?_
    (try refine wkg ?_)
    refine lastg rfl (by kernel_rfl) (fun w5 hc5 => ?_)
    have hrow5 := hc5.rangeAt (hc4.rangeAt hrow hb2lt (by simp)) (Nat.lt_of_lt_of_le hb2lt hc4.size) (by simp)
    have hrow5' := range_sub (i := 0) (n := kk) hrow5
    rw [List.drop_zero, ← List.map_take, Nat.add_zero] at hrow5'
    refine cpb (cs := (cs.take kk).map u8v) rfl rfl (hB4.ch hc5 (by simp)) (by rw [List.length_map, htl, hkk, Int.toNat_natCast]) hrow5' (by rw [stc_len hl3, List.length_map, htl]; omega) one_u8 (fun w6 hB6 hch6 hs6 => ?_)
    rw [show 0 + 8 + ((s'.n % 64 : Nat) : Int).toNat * 1 = 8 + s'.n % 64 by omega, stc_spl hl3 (by rw [htl]; omega)] at hB6
    rw [List.length_map, htl]
    refine x_late rfl rfl ?_
    (try refine wkg ?_)
    intro w7 hc7
    have hc37 : Ch [b] w3 w7 := (((Ch.some hc4).add hc5).into hch6 (.inr (by simp))).add hc7
    have hB7 := hB6.ch hc7 (by simp)
    have hl7 : (splU s'.rest (s'.n % 64) (cs.take kk)).length = 64 := by rw [splU_len (by rw [htl]; omega), hl3]
    (try refine wk ?_)
    refine wl_cut_lo rfl (hR3.mv hc37 (fun _ _ h => h)) rfl rfl (by omega) (by omega) (fun u' hR7 => ?_)
    rw [Int.toNat_natCast] at hR7
    (try refine wk ?_)
    refine ldb (v := .int .i64 (s'.n : Int)) hB7 rfl (stc_n hl7) ?_
    (try refine wk ?_)
    refine stb (v := .int .i64 ((s'.n + kk : Nat) : Int)) hB7 rfl (by show Value.int .i64 _ = _; congr 1) rfl rfl (by rw [stc_len hl7]; decide) (fun w8 hB8 hch8 hs8 => ?_)
    rw [show 0 + 72 = 72 by rfl, stc_setn hl7] at hB8
    have hc38 := hc37.into hch8 (.inr (by simp))
    have hR8 := hR7.mv hch8 (fun _ _ h => h)
    have tm2 : (((s'.n + kk : Nat) : Int)).tmod 64 = (((s'.n + kk) % 64 : Nat) : Int) := rfl
    (try refine wk ?_)
    refine ldb (v := .int .i64 ((s'.n + kk : Nat) : Int)) hB8 rfl (stc_n hl7) ?_
    (try refine wk ?_)
    have hsplit : (cs.drop kk).foldl put1 ((cs.take kk).foldl put1 s') = bs.foldl put1 s := by
      rw [← List.foldl_append, List.take_append_drop, hfold]
    rw [put_chunk (cs.take kk) s' (by intro e; rw [e] at htl; simp at htl; omega) (by rw [htl]; omega) hl3, htl] at hsplit
    refine c_cond rfl (fun h0 => ?_) (fun h0 => ?_)
    · rw [tm2] at h0
      rw [if_pos (by omega)] at hsplit
      (try refine wk ?_)
      (try ((with_reducible apply is_gd); first | refine gt ?_ | refine gf ?_ | refine gu ?_)); refine ca (block_any b E s'.h _ hl7 _ _ w8 hB8 (hK.ch (hc3.then hc38) (by simp; omega)) hb2) ?_
      rintro _ w9 ⟨rfl, hB9, hc9⟩
      (try refine wk ?_)
      refine x_goes (cs.drop kk).length rfl (by simp; omega) ⟨u', _, cs.drop kk, exj rfl, rfl, hsplit, hl7, by simp; omega, (hc3.then hc38).then hc9, hR8.mv hc9 (fun _ _ h => h), hB9⟩
    · rw [tm2] at h0
      rw [if_neg (by omega)] at hsplit
      (try refine wk ?_)
      refine x_goes (cs.drop kk).length rfl (by simp; omega) ⟨u', _, cs.drop kk, exj rfl, rfl, hsplit, hl7, by simp; omega, hc3.then hc38, hR8, hB8⟩
  · (try refine wk ?_)
    have : cs = [] := List.eq_nil_of_length_eq_zero (by omega)
    subst this
    refine out0 rfl ⟨rfl, ?_, hc3⟩
    rw [← hfold]
    exact hB3
end Go.Proofs.YtoimhmphhffelaaGreatDoor
set_option linter.unusedVariables false
set_option linter.unusedSimpArgs false
namespace Go.Proofs.YtoimhmphhffelaaGreatDoor
open Go Go.RowKit Go.Proofs.E
attribute [local irreducible] Go.wpList Go.Code.wp Go.Proofs.E.exec Go.Proofs.E.wpLexG

def H0 : S8 := ⟨0x6a09e667, 0xbb67ae85, 0x3c6ef372, 0xa54ff53a, 0x510e527f, 0x9b05688c, 0x1f83d9ab, 0x5be0cd19⟩
def St0 : St := ⟨H0, List.replicate 64 0, 0⟩
/-- The eight bytes of a length, from the greatest. -/
def lenUp (N : Nat) : Nat → List UInt8
  | 0 => []
  | k + 1 => UInt8.ofNat (N / 2 ^ (8 * k)) :: lenUp N k
/-- What is put behind n bytes. -/
def tail (n : Nat) : List UInt8 := (0x80 :: List.replicate ((120 - (n + 1) % 64) % 64) 0) ++ lenUp (8 * n) 8
def wb (x : UInt32) : List UInt8 := [(x >>> UInt32.ofNat 24).toUInt8, (x >>> UInt32.ofNat 16).toUInt8, (x >>> UInt32.ofNat 8).toUInt8, x.toUInt8]
def byteAt (s : S8) (j : Nat) : UInt8 := (wb (s.l.getD (j / 4) 0)).getD (j % 4) 0
def outK (s : S8) (k : Nat) : List UInt8 := (List.range 32).map fun j => if j < k then byteAt s j else 0
def digest (s : S8) : List UInt8 := outK s 32
def shaOf (bs : List UInt8) : List UInt8 := digest ((bs ++ tail bs.length).foldl put1 St0).h
theorem outK_len (s : S8) (k : Nat) : (outK s k).length = 32 := by simp [outK]
theorem outK_set (s : S8) {k i : Nat} {x : UInt8} (hi : i = k) (h : k < 32) (hx : x = byteAt s k) : ((outK s k).map u8v).set i (u8v x) = (outK s (k + 1)).map u8v := by
  subst hi hx
  rw [← List.map_set]
  congr 1
  apply List.ext_getElem?
  intro j
  by_cases hj : j < 32
  · rw [List.getElem?_set]
    by_cases hij : i = j
    · subst hij
      simp [outK, hj]
    · rw [if_neg hij]
      simp only [outK, List.getElem?_map, List.getElem?_range hj, Option.map_some]
      congr 1
      by_cases hlt : j < i
      · rw [if_pos hlt, if_pos (by omega)]
      · rw [if_neg hlt, if_neg (by omega)]
  · rw [List.getElem?_eq_none (by simp [outK_len]; omega), List.getElem?_eq_none (by simp [outK_len]; omega)]
theorem byteAt_ (s : S8) (i : Nat) (c : Nat) (hc : c < 4) : byteAt s (4 * i + c) = (wb (s.l.getD i 0)).getD c 0 := by
  unfold byteAt
  rw [show (4 * i + c) / 4 = i by omega, show (4 * i + c) % 4 = c by omega]
theorem shaOf_len (bs : List UInt8) : (shaOf bs).length = 32 := outK_len _ _
theorem put1_n (s : St) : ∀ bs : List UInt8, (bs.foldl put1 s).n = s.n + bs.length
  | [] => rfl
  | x :: bs => by rw [List.foldl_cons, put1_n _ bs, List.length_cons]; show s.n + 1 + _ = _; omega
theorem put1_rest : ∀ (bs : List UInt8) (s : St), s.rest.length = 64 → (bs.foldl put1 s).rest.length = 64
  | [], s, h => h
  | x :: bs, s, h => put1_rest bs (put1 s x) (by simp [put1, h])

theorem fresh_any (w : World) : Calls Tryz.prog 233 #[] w (Ret fun v w' => v = .agg (stc H0 (List.replicate 64 0) 0 true).toArray ∧ Ch [] w w') := by
  refine enter [undef, undef, undef] Tryz.func233 rfl rfl ?_
  (try refine wk ?_)
  refine wl_alloc (fun w1 b hb => ?_)
  (try refine wk ?_)
  refine wl_val (r_build_arr (vs := H0.l.map v32) rfl rfl (by intro u hu; obtain ⟨x, _, rfl⟩ := List.mem_map.1 hu; rfl)) ?_
  (try refine wk ?_)
  have hbuild : ∀ (l : List Value) (T : TypeId) (w : World), ev l (.tmp 1) = .agg (H0.l.map v32).toArray → (exec (ev l) (.build 251 #[(0, .tmp 1), (3, .const (.bool true))]) T).run Tryz.prog w = .ok (.value (.agg (stc H0 (List.replicate 64 0) 0 true).toArray)) w := by
    intro l T w h
    have hz := run_zero (P := Tryz.prog) (E := 251) (w := w)
    have h0 := run_size (P := Tryz.prog) (E := 232) (w := w)
    have h1 := run_size (P := Tryz.prog) (E := 249) (w := w)
    have h2 := run_size (P := Tryz.prog) (E := 3) (w := w)
    have h3 := run_size (P := Tryz.prog) (E := 4) (w := w)
    simp [exec, execOp, Instr.build, run_underlying Tryz.underlying251, hz, h, h0, h1, h2, h3]
    rfl
  refine wl_val (hbuild _ _ _ rfl) ?_
  (try refine wk ?_)
  refine stbw (n := 74) hb.blk rfl rfl rfl rfl (by decide) (fun w2 hB2 hch2 hs2 => ?_)
  (try refine wk ?_)
  exact outc rfl rfl (hB2.row (n := 74) (o := 0) rfl) rfl ⟨rfl, hb.ch.own hch2 (by rw [hb.at_]; exact Nat.le_refl _)⟩

set_option maxHeartbeats 8000000 in
theorem done_any (s : St) (hl : s.rest.length = 64) (m : Bool) (w : World) (hK : Laid w) (hn : s.n ≤ 1152921504606846976) :
    Calls Tryz.prog 235 #[.agg (stc s.h s.rest s.n m).toArray] w (Ret fun u w' => u = .agg ((digest ((tail s.n).foldl put1 s).h).map u8v).toArray ∧ Ch [] w w') := by
  refine enter [.agg (stc s.h s.rest s.n m).toArray, undef, undef, undef, undef, undef, undef, undef, undef, undef, undef, undef, undef, undef, undef, undef, undef, undef, undef, undef, undef, undef, undef, undef, undef, undef, undef, undef, undef, undef, undef, undef, undef, undef, undef, undef, undef, undef, undef, undef, undef, undef, undef, undef, undef, undef, undef, undef, undef, undef, undef, undef, undef, undef, undef, undef, undef, undef, undef, undef, undef, undef, undef, undef] Tryz.func235 rfl rfl ?_
  (try refine wk ?_)
  refine wl_box (v := .agg (stc s.h s.rest s.n m).toArray) rfl (fun w1 b hb => ?_)
  (try refine wk ?_)
  refine wl_alloc (fun w2 c hc => ?_)
  have hbw : b = w.heap.size := hb.at_
  have hcb : c = b + 1 := by rw [hc.at_, hb.size]
  have hlen : s.rest.length = 64 := hl
  have hB2 : Blk w2 b (stc s.h s.rest s.n m) 251 := by
    have := hb.blk.ch hc.ch (by simp)
    exact this
  have hC2 : Blk w2 c ((List.replicate 32 (0 : UInt8)).map u8v) 28 := hc.blk
  have hK2 : Laid w2 := (hK.ch hb.ch (by simp)).ch hc.ch (by simp)
  have h2w := hK.1
  have hc2 : Ch [] w w2 := hb.ch.then hc.ch
  (try refine wk ?_)
  refine ldb (v := .int .i64 (s.n : Int)) hB2 rfl (stc_n hl) ?_
  (try refine wk ?_)
  refine wl_buildSlice (vs := [u8v 0x80]) rfl rfl (by decide) (by decide) (fun w3 d3 hd3 => ?_)
  have hD3 : Blk w3 d3 ([(0x80 : UInt8)].map u8v) 5 := hd3.blk
  have hd3w : w.heap.size + 2 ≤ d3 := by rw [hd3.at_]; have := hc.size; omega
  have hsz : (IntKind.u64.wrap ((s.n : Int) * 2 ^ min (3 : Int).toNat IntKind.u64.bits)) = ((8 * s.n : Nat) : Int) := by
    rw [show (2 : Int) ^ min (3 : Int).toNat IntKind.u64.bits = 8 by decide]
    rw [wrap_u64 (by omega)]
    omega
  (try refine wk ?_)
  (try ((with_reducible apply is_gd); first | refine gt ?_ | refine gf ?_ | refine gu ?_)); refine ca (take_any b 251 s hl m _ [0x80] w3 (hB2.ch hd3.ch (by simp)) (hK2.ch hd3.ch (by simp)) (by omega) (hD3.rd8 (cap := 1) (by simp; omega) (by decide) (by decide)) (by simp; omega)) ?_
  rintro _ w4 ⟨rfl, hB4, hc4⟩
  have hC4 := (hC2.ch hd3.ch (by simp)).ch hc4 (by simp; omega)
  have hc24 : Ch [] w w4 := (hc2.then hd3.ch).own hc4 (by omega)
  (try refine wk ?_)
  rw [hsz]
  
  generalize hfin : (tail s.n).foldl put1 s = fin
  have hl4 : ([(0x80 : UInt8)].foldl put1 s).rest.length = 64 := put1_rest _ _ hl
  have hn4 : ([(0x80 : UInt8)].foldl put1 s).n = s.n + 1 := put1_n _ _
  have hf4 : (List.replicate ((120 - (s.n + 1) % 64) % 64) 0 ++ lenUp (8 * s.n) 8).foldl put1 ([(0x80 : UInt8)].foldl put1 s) = fin := by
    rw [← hfin]
    rfl
  generalize [(0x80 : UInt8)].foldl put1 s = s4 at hB4 hl4 hn4 hf4
  refine c_loop (fun k l w' => ∃ (s' : St), (∃ jj : Nat → Value, l = [jj 0, .pointer (some ⟨b, 0, none⟩), .pointer (some ⟨c, 0, none⟩), .int .u64 ((8 * s.n : Nat) : Int), jj 4, jj 5, jj 6, jj 7, jj 8, jj 9, jj 10, jj 11, jj 12, jj 13, jj 14, jj 15, jj 16, jj 17, jj 18, jj 19, jj 20, jj 21, jj 22, jj 23, jj 24, jj 25, jj 26, jj 27, jj 28, jj 29, jj 30, jj 31, jj 32, jj 33, jj 34, jj 35, jj 36, jj 37, jj 38, jj 39, jj 40, jj 41, jj 42, jj 43, jj 44, jj 45, jj 46, jj 47, jj 48, jj 49, jj 50, jj 51, jj 52, jj 53, jj 54, jj 55, jj 56, jj 57, jj 58, jj 59, jj 60, jj 61, jj 62, jj 63]) ∧ k = (120 - s'.n % 64) % 64 ∧ (List.replicate k 0 ++ lenUp (8 * s.n) 8).foldl put1 s' = fin ∧ s'.rest.length = 64 ∧ s'.n + k ≤ s.n + 64 ∧ Ch [] w w' ∧ Blk w' b (stc s'.h s'.rest s'.n m) 251 ∧ Blk w' c ((List.replicate 32 (0 : UInt8)).map u8v) 28) ((120 - (s.n + 1) % 64) % 64)
    ⟨s4, exj rfl, by rw [hn4], hf4, hl4, by rw [hn4]; omega, hc24, hB4, hC4⟩ ?_
  rintro k l w5 ⟨s5, ⟨jj, rfl⟩, hk5, hf5, hl5, hn5, hc5, hB5, hC5⟩
  (try refine wk ?_)
  refine ldb (v := .int .i64 (s5.n : Int)) hB5 rfl (stc_n hl5) ?_
  (try refine wk ?_)
  rw [show ((s5.n : Int)).tmod 64 = ((s5.n % 64 : Nat) : Int) by rfl]
  refine c_cond rfl (fun h56 => ?_) (fun h56 => ?_)
  · (try refine wk ?_)
    refine wl_buildSlice (vs := [u8v 0]) rfl rfl (by decide) (by decide) (fun w6 d6 hd6 => ?_)
    have hD6 : Blk w6 d6 ([(0 : UInt8)].map u8v) 5 := hd6.blk
    have hd6w : c < d6 := by rw [hd6.at_]; exact hC5.lt
    (try refine wk ?_)
    (try ((with_reducible apply is_gd); first | refine gt ?_ | refine gf ?_ | refine gu ?_)); refine ca (take_any b 251 s5 hl5 m _ [0] w6 (hB5.ch hd6.ch (by simp)) ((hK.ch hc5 (by simp)).ch hd6.ch (by simp)) (by omega) (hD6.rd8 (cap := 1) (by simp; omega) (by decide) (by decide)) (by simp; omega)) ?_
    rintro _ w7 ⟨rfl, hB7, hc7⟩
    (try refine wk ?_)
    obtain ⟨k, rfl⟩ : ∃ k', k = k' + 1 := ⟨k - 1, by omega⟩
    have hn7 : ([(0 : UInt8)].foldl put1 s5).n = s5.n + 1 := put1_n _ _
    refine x_goes k rfl (by omega) ⟨[(0 : UInt8)].foldl put1 s5, exj rfl, by rw [hn7]; omega, by rw [← hf5]; rfl, put1_rest _ _ hl5, by rw [hn7]; omega, (hc5.then hd6.ch).own hc7 (by omega), hB7, (hC5.ch hd6.ch (by simp)).ch hc7 (by simp; omega)⟩
  · have hk0 : k = 0 := by omega
    subst hk0
    (try refine wk ?_)
    
    refine c_loop (fun k l w' => ∃ (s' : St), (∃ jj : Nat → Value, l = [jj 0, .pointer (some ⟨b, 0, none⟩), .pointer (some ⟨c, 0, none⟩), .int .u64 ((8 * s.n : Nat) : Int), .int .i64 (8 * (k : Int) - 8), jj 5, jj 6, jj 7, jj 8, jj 9, jj 10, jj 11, jj 12, jj 13, jj 14, jj 15, jj 16, jj 17, jj 18, jj 19, jj 20, jj 21, jj 22, jj 23, jj 24, jj 25, jj 26, jj 27, jj 28, jj 29, jj 30, jj 31, jj 32, jj 33, jj 34, jj 35, jj 36, jj 37, jj 38, jj 39, jj 40, jj 41, jj 42, jj 43, jj 44, jj 45, jj 46, jj 47, jj 48, jj 49, jj 50, jj 51, jj 52, jj 53, jj 54, jj 55, jj 56, jj 57, jj 58, jj 59, jj 60, jj 61, jj 62, jj 63]) ∧ k ≤ 8 ∧ (lenUp (8 * s.n) k).foldl put1 s' = fin ∧ s'.rest.length = 64 ∧ s'.n + k ≤ s.n + 72 ∧ Ch [] w w' ∧ Blk w' b (stc s'.h s'.rest s'.n m) 251 ∧ Blk w' c ((List.replicate 32 (0 : UInt8)).map u8v) 28) 8
      ⟨s5, exj rfl, by omega, hf5, hl5, by omega, hc5, hB5, hC5⟩ ?_
    rintro k l w6 ⟨s6, ⟨jj, rfl⟩, hk6, hf6, hl6, hn6, hc6, hB6, hC6⟩
    (try refine wk ?_)
    refine c_cond rfl (fun h8 => ?_) (fun h8 => ?_)
    · obtain ⟨k, rfl⟩ : ∃ k', k = k' + 1 := ⟨k - 1, by omega⟩
      have he : IntKind.u8.wrap (((8 * s.n : Nat) : Int).fdiv (2 ^ min (8 * ((k + 1 : Nat) : Int) - 8).toNat IntKind.u64.bits)) = ((UInt8.ofNat (8 * s.n / 2 ^ (8 * k))).toNat : Int) := by
        rw [show (8 * ((k + 1 : Nat) : Int) - 8).toNat = 8 * k by omega, Nat.min_eq_left (show 8 * k ≤ IntKind.u64.bits by simp only [IntKind.bits]; omega)]
        rw [show ((2 : Int) ^ (8 * k)) = ((2 ^ (8 * k) : Nat) : Int) by simp, Int.fdiv_eq_ediv_of_nonneg _ (by exact_mod_cast Nat.zero_le _), ← Int.natCast_ediv, wrap8, UInt8.toNat_ofNat']
      (try refine wk ?_)
      rw [he]
      refine wl_buildSlice (vs := [u8v (UInt8.ofNat (8 * s.n / 2 ^ (8 * k)))]) rfl rfl (by intro v hv; simp at hv; subst hv; rfl) (by decide) (fun w7 d7 hd7 => ?_)
      have hD7 : Blk w7 d7 ([UInt8.ofNat (8 * s.n / 2 ^ (8 * k))].map u8v) 5 := hd7.blk
      have hd7w : c < d7 := by rw [hd7.at_]; exact hC6.lt
      (try refine wk ?_)
      (try ((with_reducible apply is_gd); first | refine gt ?_ | refine gf ?_ | refine gu ?_)); refine ca (take_any b 251 s6 hl6 m _ [UInt8.ofNat (8 * s.n / 2 ^ (8 * k))] w7 (hB6.ch hd7.ch (by simp)) ((hK.ch hc6 (by simp)).ch hd7.ch (by simp)) (by omega) (hD7.rd8 (cap := 1) (by simp; omega) (by simp) (by simp)) (by simp; omega)) ?_
      rintro _ w8 ⟨rfl, hB8, hc8⟩
      (try refine wk ?_)
      have hn8 : ([UInt8.ofNat (8 * s.n / 2 ^ (8 * k))].foldl put1 s6).n = s6.n + 1 := put1_n _ _
      refine x_goes k rfl (by omega) ⟨[UInt8.ofNat (8 * s.n / 2 ^ (8 * k))].foldl put1 s6, exj (by rw [show 8 * (k : Int) - 8 = 8 * ((k + 1 : Nat) : Int) - 8 - 8 by omega]; rfl), by omega, by rw [← hf6]; rfl, put1_rest _ _ hl6, by rw [hn8]; omega, (hc6.then hd7.ch).own hc8 (by omega), hB8, (hC6.ch hd7.ch (by simp)).ch hc8 (by simp; omega)⟩
    · have hk0 : k = 0 := by omega
      subst hk0
      have hf6' : s6 = fin := hf6
      subst hf6'
      (try refine wk ?_)
      refine wl_alloc (fun w7 d hd => ?_)
      have hD7 : Blk w7 d ((outK s6.h (4 * 0)).map u8v) 28 := hd.blk
      have hdc : c < d := by rw [hd.at_]; exact hC6.lt
      have hc7 : Ch [] w w7 := hc6.then hd.ch
      have hC7 := hC6.ch hd.ch (by simp)
      (try refine wk ?_)
      refine ldbr (hB6.ch hd.ch (by simp)) rfl (ds := s6.h.l.map v32) rfl rfl ?_
      (try refine wk ?_)
      
      refine c_loop (fun k l w' => ∃ (i : Nat), (∃ jj : Nat → Value, l = [jj 0, .pointer (some ⟨b, 0, none⟩), .pointer (some ⟨c, 0, none⟩), jj 3, jj 4, .pointer (some ⟨d, 0, none⟩), jj 6, jj 7, jj 8, jj 9, jj 10, jj 11, jj 12, jj 13, jj 14, jj 15, jj 16, jj 17, jj 18, jj 19, jj 20, jj 21, jj 22, jj 23, jj 24, jj 25, jj 26, jj 27, jj 28, jj 29, jj 30, .agg (s6.h.l.map v32).toArray, .int .i64 (i : Int), jj 33, jj 34, jj 35, jj 36, jj 37, jj 38, jj 39, jj 40, jj 41, jj 42, jj 43, jj 44, jj 45, jj 46, jj 47, jj 48, jj 49, jj 50, jj 51, jj 52, jj 53, jj 54, jj 55, jj 56, jj 57, jj 58, jj 59, jj 60, jj 61, jj 62, jj 63]) ∧ i + k = 8 ∧ Ch [] w w' ∧ Blk w' c ((List.replicate 32 (0 : UInt8)).map u8v) 28 ∧ Blk w' d ((outK s6.h (4 * i)).map u8v) 28) 8
        ⟨0, exj rfl, rfl, hc7, hC7, hD7⟩ ?_
      rintro k l w8 ⟨i, ⟨jj, rfl⟩, hik, hc8, hC8, hD8⟩
      have hol := outK_len s6.h
      (try refine wk ?_)
      refine c_cond rfl (fun h8 => ?_) (fun h8 => ?_)
      · (try refine wk ?_)
        refine wl_val (r_index_one (v := v32 (s6.h.l.getD i 0)) rfl rfl (by omega) (by omega) (mg' v32 (i := i) 0 (by omega) (by show i < 8; omega))) ?_
        (try refine wk ?_)
        refine stb (v := u8v (s6.h.l.getD i 0 >>> UInt32.ofNat 24).toUInt8) hD8 rfl rfl rfl rfl (by simp [hol]; omega) (fun w9 hD9 hch9 hs9 => ?_)
        rw [outK_set s6.h (k := 4 * i) (x := (s6.h.l.getD i 0 >>> UInt32.ofNat 24).toUInt8) (by omega) (by omega) (byteAt_ s6.h i 0 (by omega)).symm] at hD9
        (try refine wk ?_)
        refine stb (v := u8v (s6.h.l.getD i 0 >>> UInt32.ofNat 16).toUInt8) hD9 rfl rfl rfl rfl (by simp [hol]; omega) (fun w10 hD10 hch10 hs10 => ?_)
        rw [outK_set s6.h (k := 4 * i + 1) (x := (s6.h.l.getD i 0 >>> UInt32.ofNat 16).toUInt8) (by omega) (by omega) (byteAt_ s6.h i 1 (by omega)).symm] at hD10
        (try refine wk ?_)
        refine stb (v := u8v (s6.h.l.getD i 0 >>> UInt32.ofNat 8).toUInt8) hD10 rfl rfl rfl rfl (by simp [hol]; omega) (fun w11 hD11 hch11 hs11 => ?_)
        rw [outK_set s6.h (k := 4 * i + 2) (x := (s6.h.l.getD i 0 >>> UInt32.ofNat 8).toUInt8) (by omega) (by omega) (byteAt_ s6.h i 2 (by omega)).symm] at hD11
        (try refine wk ?_)
        refine stb (v := u8v (s6.h.l.getD i 0).toUInt8) hD11 rfl rfl rfl rfl (by simp [hol]; omega) (fun w12 hD12 hch12 hs12 => ?_)
        rw [outK_set s6.h (k := 4 * i + 3) (x := (s6.h.l.getD i 0).toUInt8) (by omega) (by omega) (byteAt_ s6.h i 3 (by omega)).symm] at hD12
        have hch : Ch [d] w8 w12 := ((hch9.then hch10).then hch11).then hch12
        (try refine wk ?_)
        refine x_goes (k - 1) rfl (by omega) ⟨i + 1, exj rfl, by omega, hc8.own hch (by omega), hC8.ch hch (by simp; omega), ?_⟩
        rw [show 4 * (i + 1) = 4 * i + 3 + 1 by omega]
        exact hD12
      · obtain rfl : i = 8 := by omega
        (try refine wk ?_)
        refine ldbr hD8 rfl (ds := (digest s6.h).map u8v) (by simp [digest, List.take_of_length_le, hol]) (by simp [digest, hol]) ?_
        (try refine wk ?_)
        refine stbw (n := 32) hC8 rfl rfl (by simp [digest, hol]) (by simp) one_u8 (fun w9 hC9 hch9 hs9 => ?_)
        (try refine wk ?_)
        exact outc rfl rfl (hC9.row (n := 32) (o := 0) (ds := (digest s6.h).map u8v) (by simp [digest, List.take_of_length_le, hol])) (by simp [digest, hol]) ⟨rfl, hc8.own hch9 (by omega)⟩
end Go.Proofs.YtoimhmphhffelaaGreatDoor
set_option linter.unusedVariables false
set_option linter.unusedSimpArgs false
namespace Go.Proofs.YtoimhmphhffelaaGreatDoor
open Go Go.RowKit Go.Proofs.E
attribute [local irreducible] Go.wpList Go.Code.wp Go.Proofs.E.exec Go.Proofs.E.wpLexG

/-- A sum's bytes as a value. -/
def hv (a : List UInt8) : Value := .agg (a.map u8v).toArray
def nodeOf (a b : List UInt8) : List UInt8 := shaOf (1 :: (a ++ b))
theorem nodeOf_len (a b : List UInt8) : (nodeOf a b).length = 32 := shaOf_len _
theorem hv_len {a : List UInt8} (h : a.length = 32) : (a.map u8v).length = 32 := by simp [h]

theorem sum_any (v : Value) (bs : List UInt8) (w : World) (hK : Laid w) (hR : (Ty.enc eU8).Rd [] w v bs) (hle : bs.length ≤ 281474976710656) :
    Calls Tryz.prog 216 #[v] w (Ret fun u w' => u = hv (shaOf bs) ∧ Ch [] w w') := by
  refine enter [v, undef, undef, undef, undef, undef, undef, undef, undef] Tryz.func216 rfl rfl ?_
  have h2 := hK.1
  (try refine wk ?_)
  refine wl_alloc (fun w1 c hc => ?_)
  have hC1 : Blk w1 c ((List.replicate 32 (0 : UInt8)).map u8v) 28 := hc.blk
  have hcw : c = w.heap.size := hc.at_
  (try refine wk ?_)
  (try ((with_reducible apply is_gd); first | refine gt ?_ | refine gf ?_ | refine gu ?_)); refine ca (fresh_any w1) ?_
  rintro _ w2 ⟨rfl, hc2⟩
  (try refine wk ?_)
  refine wl_alloc (fun w3 b hb => ?_)
  have hc13 : Ch [] w1 w3 := hc2.then hb.ch
  have hcb : c < b := by rw [hb.at_]; exact (hC1.ch hc2 (by simp)).lt
  (try refine wk ?_)
  refine stbw (n := 74) hb.blk rfl rfl rfl rfl (by decide) (fun w4 hB4 hch4 hs4 => ?_)
  have hc4 : Ch [] w w4 := (hc.ch.then hc13).own hch4 (by omega)
  have hC4 := (hC1.ch hc13 (by simp)).ch hch4 (by simp; omega)
  (try refine wk ?_)
  (try ((with_reducible apply is_gd); first | refine gt ?_ | refine gf ?_ | refine gu ?_)); refine ca (take_any b 251 St0 rfl true v bs w4 hB4 (hK.ch hc4 (by simp)) (by omega) (hR.mv (Ch.some hc4) (fun k hk hm => by simp at hm; omega)) (by simp [St0]; omega)) ?_
  rintro _ w5 ⟨rfl, hB5, hc5⟩
  have hc05 : Ch [] w w5 := hc4.own hc5 (by omega)
  have hC5 := hC4.ch hc5 (by simp; omega)
  have hn5 : (bs.foldl put1 St0).n = bs.length := by rw [put1_n]; simp [St0]
  have hl5 : (bs.foldl put1 St0).rest.length = 64 := put1_rest _ _ rfl
  have hsum : shaOf bs = digest ((tail (bs.foldl put1 St0).n).foldl put1 (bs.foldl put1 St0)).h := by
    rw [shaOf, List.foldl_append, hn5]
  generalize bs.foldl put1 St0 = s5 at *
  (try refine wk ?_)
  refine ldbr hB5 rfl (ds := stc s5.h s5.rest s5.n true) (by simp [List.take_of_length_le, stc_len hl5]) (stc_len hl5) ?_
  (try refine wk ?_)
  (try ((with_reducible apply is_gd); first | refine gt ?_ | refine gf ?_ | refine gu ?_)); refine ca (done_any s5 hl5 true w5 (hK.ch hc05 (by simp)) (by omega)) ?_
  rintro _ w6 ⟨rfl, hc6⟩
  rw [← hsum]
  have hls := shaOf_len bs
  have hC6 := hC5.ch hc6 (by simp)
  (try refine wk ?_)
  refine stbw (n := 32) hC6 rfl rfl (hv_len hls) (by simp) one_u8 (fun w7 hC7 hch7 hs7 => ?_)
  (try refine wk ?_)
  exact outc rfl rfl (hC7.row (n := 32) (o := 0) (ds := (shaOf bs).map u8v) (by simp [List.take_of_length_le, hls])) (by simp [hls]) ⟨rfl, (hc05.then hc6).own hch7 (by omega)⟩

theorem bytes_any (q : UInt8) (v : Value) (ls : List (List UInt8)) (w : World) (hR : (Ty.sl (Ty.enc eU8)).Rd [] w v ls) (hT : 1 + ls.flatten.length ≤ 140737488355328) :
    Calls Tryz.prog 217 #[u8v q, v] w (Ret fun u w' => Own eU8 w' w.heap.size 5 u (q :: ls.flatten) ∧ Ch [] w w') := by
  refine enter [u8v q, v, undef, undef, undef, undef, undef, undef, undef, undef, undef, undef, undef, undef, undef, undef, undef, undef, undef, undef, undef] Tryz.func217 rfl rfl ?_
  (try refine wk ?_)
  refine wl_buildSlice (vs := [u8v q]) rfl rfl (by intro u hu; simp at hu; subst hu; rfl) (by decide) (fun w1 d hd => ?_)
  have hO1 : Own eU8 w1 w.heap.size 5 _ [q] := Own.of_new (en := eU8) hd rfl (Nat.le_refl _) (by simp) rfl
  (try refine wk ?_)
  obtain ⟨A, cap, rfl⟩ := hR.form
  have hle := hR.le
  (try refine wk ?_)
  
  refine c_loop (fun k l w' => ∃ (u : Value) (i : Nat), (∃ jj : Nat → Value, l = [jj 0, jj 1, jj 2, jj 3, jj 4, u, jj 6, jj 7, jj 8, jj 9, .slice A ls.length cap, .int .i64 (ls.length : Int), .int .i64 (i : Int), jj 13, jj 14, jj 15, jj 16, jj 17, jj 18, jj 19, jj 20]) ∧ i + k = ls.length ∧ Own eU8 w' w.heap.size 5 u (q :: (ls.take i).flatten) ∧ Ch [] w w') ls.length
    ⟨_, 0, exj rfl, by omega, hO1, hd.ch⟩ ?_
  rintro k l w2 ⟨u, i, ⟨jj, rfl⟩, hik, hO2, hc2⟩
  (try refine wk ?_)
  refine c_cond rfl (fun h => ?_) (fun h => ?_)
  · (try refine wk ?_)
    (try ((with_reducible apply is_gd); first | refine gt ?_ | refine gf ?_ | refine gu ?_)); refine ix (hR.ch hc2) (fun b o x hx hA => ?_)
    (try refine wk ?_)
    refine wl_load_one rfl hA rfl (fun vx hvx => ?_)
    obtain ⟨vx', hvx', hRx⟩ := hvx
    injection hvx' with hvx' _
    subst hvx'
    rw [Int.toNat_natCast] at hx
    have hxi : (ls.take (i + 1)).flatten = (ls.take i).flatten ++ x := by
      rw [List.take_add_one, hx]
      simp
    have hlen : (ls.take (i + 1)).flatten.length ≤ ls.flatten.length := by
      conv => rhs; rw [← List.take_append_drop (i + 1) ls, List.flatten_append, List.length_append]
      omega
    rw [hxi, List.length_append] at hlen
    (try refine wk ?_)
    refine apb (v := u) rfl rfl hO2 hc2.size rfl hRx (by rw [List.length_cons]; omega) (by rw [List.length_cons]; omega) (fun v' w3 hO3 hc3 hat => ?_)
    (try refine wk ?_)
    refine x_goes (k - 1) rfl (by omega) ⟨v', i + 1, exj rfl, by omega, ?_, ?_⟩
    · rw [hxi]
      simpa using hO3
    · refine hc2.trans hc3 (by simp) (fun x hx hm => ?_)
      have := (hO2.lt (k := x) (by simpa using hm)).1
      omega
  · obtain rfl : k = 0 := by omega
    obtain rfl : i = ls.length := by omega
    (try refine wk ?_)
    refine out1 rfl ⟨?_, hc2⟩
    rw [List.take_length] at hO2
    exact hO2
theorem of_any (q : UInt8) (v : Value) (ls : List (List UInt8)) (w : World) (hK : Laid w) (hR : (Ty.sl (Ty.enc eU8)).Rd [] w v ls) (hT : 1 + ls.flatten.length ≤ 140737488355328) :
    Calls Tryz.prog 189 #[u8v q, v] w (Ret fun u w' => u = hv (shaOf (q :: ls.flatten)) ∧ Ch [] w w') := by
  refine enter [u8v q, v, undef, undef, undef, undef, undef, undef, undef] Tryz.func189 rfl rfl ?_
  (try refine wk ?_)
  refine wl_alloc (fun w1 c hc => ?_)
  have hC1 : Blk w1 c ((List.replicate 32 (0 : UInt8)).map u8v) 28 := hc.blk
  (try refine wk ?_)
  (try ((with_reducible apply is_gd); first | refine gt ?_ | refine gf ?_ | refine gu ?_)); refine ca (bytes_any q v ls w1 (hR.ch hc.ch) hT) ?_
  rintro u w2 ⟨hO2, hc2⟩
  (try refine wk ?_)
  (try ((with_reducible apply is_gd); first | refine gt ?_ | refine gf ?_ | refine gu ?_)); refine ca (sum_any u _ w2 ((hK.ch hc.ch (by simp)).ch hc2 (by simp)) (hO2.rd (by simp) (by rw [List.length_cons]; omega)) (by rw [List.length_cons]; omega)) ?_
  rintro _ w3 ⟨rfl, hc3⟩
  have hls := shaOf_len (q :: ls.flatten)
  have hC3 := (hC1.ch hc2 (by simp)).ch hc3 (by simp)
  (try refine wk ?_)
  refine stbw (n := 32) hC3 rfl rfl (hv_len hls) (by simp) one_u8 (fun w7 hC7 hch7 hs7 => ?_)
  (try refine wk ?_)
  exact outc rfl rfl (hC7.row (n := 32) (o := 0) (ds := (shaOf (q :: ls.flatten)).map u8v) (by simp [List.take_of_length_le, hls])) (by simp [hls]) ⟨rfl, ((hc.ch.then hc2).then hc3).own hch7 (by rw [hc.at_]; exact Nat.le_refl _)⟩
theorem node_any (a b : List UInt8) (ha : a.length = 32) (hb : b.length = 32) (w : World) (hK : Laid w) :
    Calls Tryz.prog 188 #[hv a, hv b] w (Ret fun u w' => u = hv (nodeOf a b) ∧ Ch [] w w') := by
  refine enter [hv a, hv b, undef, undef, undef, undef, undef, undef, undef] Tryz.func188 rfl rfl ?_
  (try refine wk ?_)
  refine wl_box (v := hv a) rfl (fun w1 c1 hc1 => ?_)
  (try refine wk ?_)
  refine wl_box (v := hv b) rfl (fun w2 c2 hc2 => ?_)
  (try refine wk ?_)
  refine wl_alloc (fun w3 c hc => ?_)
  have hA3 : Blk w3 c1 (a.map u8v) 28 := (hc1.blk.ch hc2.ch (by simp)).ch hc.ch (by simp)
  have hB3 : Blk w3 c2 (b.map u8v) 28 := hc2.blk.ch hc.ch (by simp)
  have hC3 : Blk w3 c ((List.replicate 32 (0 : UInt8)).map u8v) 28 := hc.blk
  have hc3 : Ch [] w w3 := (hc1.ch.then hc2.ch).then hc.ch
  have hcw : w.heap.size ≤ c := by rw [hc.at_]; exact (hc1.ch.then hc2.ch).size
  (try refine wk ?_)
  refine c_drawl 4 [] (by kernel_rfl) (by kernel_rfl) (by kernel_rfl) (fun w4 hc4 hs4 => ?_)
  refine wg_val (fun _ _ => r_cut_arr0 rfl) ?_
  refine wg_val (fun _ _ => r_cut_arr0 rfl) ?_
  refine lastg rfl (by kernel_rfl) (fun w5 hc5 => ?_)
  refine wl_buildSlice (vs := [.slice (some ⟨c1, 0, none⟩) 32 32, .slice (some ⟨c2, 0, none⟩) 32 32]) rfl rfl (by intro u hu; simp at hu; rcases hu with rfl | rfl <;> rfl) (by decide) (fun w6 d hd => ?_)
  refine x_mid rfl hd.ch ?_
  have hc36 : Ch [] w3 w6 := (hc4.then hc5).then hd.ch
  have hA6 := hA3.ch hc36 (by simp)
  have hB6 := hB3.ch hc36 (by simp)
  have hR6 : (Ty.sl (Ty.enc eU8)).Rd [] w6 (.slice (some ⟨d, 0, none⟩) 2 2) [a, b] := by
    refine Rd.of_blk1 hd.blk (by simp) rfl rfl (by decide) (fun i x hx => ?_)
    match i, hx with
    | 0, hx =>
      simp only [List.getElem?_cons_zero, Option.some.injEq] at hx
      subst hx
      exact ⟨_, rfl, _, rfl, by have := hA6.rd8 (S := []) (cap := 32) (by simp) (by omega) (by omega); rwa [ha] at this⟩
    | 1, hx =>
      simp only [List.getElem?_cons_succ, List.getElem?_cons_zero, Option.some.injEq] at hx
      subst hx
      exact ⟨_, rfl, _, rfl, by have := hB6.rd8 (S := []) (cap := 32) (by simp) (by omega) (by omega); rwa [hb] at this⟩
  have hK6 := hK.ch (hc3.then hc36) (by simp)
  (try ((with_reducible apply is_gg); first | refine gtg ?_ | refine gfg ?_ | refine gug ?_)); refine cag (fun w7 hc7 => (of_any 1 _ [a, b] w7 (hK6.ch hc7 (by simp)) (hR6.ch hc7) (by simp; omega))) ?_
  have hls := nodeOf_len a b
  refine lastg rfl (by kernel_rfl) (fun w8 hc8 => ?_)
  refine stbw (n := 32) (vs := (nodeOf a b).map u8v) ((hC3.ch hc36 (by simp)).ch hc8 (by simp)) rfl ?_ (hv_len hls) (by simp) one_u8 (fun w9 hC9 hch9 hs9 => ?_)
  · show hv (shaOf (1 :: [a, b].flatten)) = hv (nodeOf a b)
    simp [nodeOf]
  refine x_last rfl rfl (fun w10 hc10 => ?_)
  (try refine wk ?_)
  exact outc rfl rfl ((hC9.ch hc10 (by simp)).row (n := 32) (o := 0) (ds := (nodeOf a b).map u8v) (by simp [List.take_of_length_le, hls])) (by simp [hls]) ⟨rfl, ((((hc3.then hc36).then hc8)).own hch9 hcw).then hc10⟩
end Go.Proofs.YtoimhmphhffelaaGreatDoor
set_option linter.unusedVariables false
set_option linter.unusedSimpArgs false
namespace Go.Proofs.YtoimhmphhffelaaGreatDoor
open Go Go.RowKit Go.Proofs.E
attribute [local irreducible] Go.wpList Go.Code.wp Go.Proofs.E.exec Go.Proofs.E.wpLexG

theorem chz_eq (e f g : UInt32) : (e &&& f) ^^^ (~~~e &&& g) = chz e f g := by
  unfold chz
  apply UInt32.eq_of_toBitVec_eq
  apply BitVec.eq_of_getLsbD_eq
  intro i hi
  simp [hi]
  cases e.toBitVec[i] <;> cases f.toBitVec[i] <;> cases g.toBitVec[i] <;> rfl
theorem maj_eq (a b c : UInt32) : ((a &&& b) ^^^ (a &&& c)) ^^^ (b &&& c) = maj a b c := by
  unfold maj
  apply UInt32.eq_of_toBitVec_eq
  apply BitVec.eq_of_getLsbD_eq
  intro i hi
  simp [hi]
  cases a.toBitVec[i] <;> cases b.toBitVec[i] <;> cases c.toBitVec[i] <;> rfl

theorem keys_any (w : World) : Calls Tryz.prog 231 #[] w (Ret fun v w' => v = .agg (K256.map v32).toArray ∧ Ch [] w w') := by
  refine enter [undef, undef] Tryz.func231 rfl rfl ?_
  (try refine wk ?_)
  refine wl_alloc (fun w1 b hb => ?_)
  have hB : Blk w1 b ((List.replicate 64 (0 : UInt32)).map v32) 246 := hb.blk
  (try refine wk ?_)
  refine wl_val (r_build_arr (vs := K256.map v32) rfl rfl (by intro u hu; obtain ⟨x, _, rfl⟩ := List.mem_map.1 hu; rfl)) ?_
  refine stbw (n := 64) (vs := K256.map v32) hB rfl rfl rfl (by simp) one_32 (fun w2 hB2 hch2 hs2 => ?_)
  (try refine wk ?_)
  exact outc rfl rfl (hB2.row (n := 64) (o := 0) (ds := K256.map v32) rfl) rfl ⟨rfl, hb.ch.own hch2 (by rw [hb.at_]; exact Nat.le_refl _)⟩

set_option maxHeartbeats 8000000 in
theorem rblock_any (h : S8) (bs : List UInt8) (hl : bs.length = 64) (v : Value) (w : World) (hR : (Ty.enc eU8).Rd [] w v bs) :
    Calls Tryz.prog 213 #[.agg (h.l.map v32).toArray, v] w (Ret fun u w' => u = .agg ((squeeze h bs).l.map v32).toArray ∧ Ch [] w w') := by
  refine enter [.agg (h.l.map v32).toArray, v, undef, undef, undef, undef, undef, undef, undef, undef, undef, undef, undef, undef, undef, undef, undef, undef, undef, undef, undef, undef, undef, undef, undef, undef, undef, undef, undef, undef, undef, undef, undef, undef, undef, undef, undef, undef, undef, undef, undef, undef, undef, undef, undef, undef, undef, undef, undef, undef, undef, undef, undef, undef, undef, undef, undef, undef, undef, undef, undef, undef, undef, undef, undef, undef, undef, undef, undef, undef, undef, undef, undef, undef, undef, undef, undef, undef, undef, undef, undef, undef, undef, undef, undef, undef, undef, undef, undef, undef, undef, undef, undef, undef, undef, undef, undef, undef, undef, undef, undef, undef, undef, undef, undef, undef, undef, undef, undef, undef, undef, undef, undef, undef, undef, undef, undef, undef, undef, undef, undef, undef, undef, undef, undef, undef, undef, undef, undef, undef, undef, undef, undef, undef, undef, undef, undef, undef, undef, undef, undef, undef, undef, undef, undef, undef, undef, undef, undef, undef, undef, undef, undef, undef, undef, undef, undef, undef, undef, undef, undef, undef, undef, undef, undef, undef, undef, undef, undef, undef, undef, undef, undef, undef, undef, undef, undef, undef, undef, undef, undef, undef, undef, undef, undef, undef, undef, undef, undef, undef, undef, undef, undef, undef, undef] Tryz.func213 rfl rfl ?_
  (try refine wk ?_)
  refine wl_box (v := .agg (h.l.map v32).toArray) rfl (fun w1 bh hh => ?_)
  (try refine wk ?_)
  refine wl_alloc (fun w2 c hc => ?_)
  (try refine wk ?_)
  refine wl_alloc (fun w3 bw hw => ?_)
  have hH : Blk w3 bh (h.l.map v32) 232 := (hh.blk.ch hc.ch (by simp)).ch hw.ch (by simp)
  have hC : Blk w3 c ((List.replicate 8 (0 : UInt32)).map v32) 232 := hc.blk.ch hw.ch (by simp)
  have hW : Blk w3 bw ((sch bs 0 ++ List.replicate (64 - 0) 0).map v32) 246 := hw.blk
  have hch : Ch [] w w3 := (hh.ch.then hc.ch).then hw.ch
  have hbh : bh = w.heap.size := hh.at_
  have hbc : c = bh + 1 := by rw [hc.at_, hh.size]
  have hbw : bw = c + 1 := by rw [hw.at_, hc.size]
  (try refine wk ?_)
  
  refine c_loop (fun k l w' => ∃ (i : Nat), (∃ jj : Nat → Value, l = [jj 0, v, .pointer (some ⟨bh, 0, none⟩), jj 3, .pointer (some ⟨c, 0, none⟩), .pointer (some ⟨bw, 0, none⟩), .int .i64 (i : Int), jj 7, jj 8, jj 9, jj 10, jj 11, jj 12, jj 13, jj 14, jj 15, jj 16, jj 17, jj 18, jj 19, jj 20, jj 21, jj 22, jj 23, jj 24, jj 25, jj 26, jj 27, jj 28, jj 29, jj 30, jj 31, jj 32, jj 33, jj 34, jj 35, jj 36, jj 37, jj 38, jj 39, jj 40, jj 41, jj 42, jj 43, jj 44, jj 45, jj 46, jj 47, jj 48, jj 49, jj 50, jj 51, jj 52, jj 53, jj 54, jj 55, jj 56, jj 57, jj 58, jj 59, jj 60, jj 61, jj 62, jj 63, jj 64, jj 65, jj 66, jj 67, jj 68, jj 69, jj 70, jj 71, jj 72, jj 73, jj 74, jj 75, jj 76, jj 77, jj 78, jj 79, jj 80, jj 81, jj 82, jj 83, jj 84, jj 85, jj 86, jj 87, jj 88, jj 89, jj 90, jj 91, jj 92, jj 93, jj 94, jj 95, jj 96, jj 97, jj 98, jj 99, jj 100, jj 101, jj 102, jj 103, jj 104, jj 105, jj 106, jj 107, jj 108, jj 109, jj 110, jj 111, jj 112, jj 113, jj 114, jj 115, jj 116, jj 117, jj 118, jj 119, jj 120, jj 121, jj 122, jj 123, jj 124, jj 125, jj 126, jj 127, jj 128, jj 129, jj 130, jj 131, jj 132, jj 133, jj 134, jj 135, jj 136, jj 137, jj 138, jj 139, jj 140, jj 141, jj 142, jj 143, jj 144, jj 145, jj 146, jj 147, jj 148, jj 149, jj 150, jj 151, jj 152, jj 153, jj 154, jj 155, jj 156, jj 157, jj 158, jj 159, jj 160, jj 161, jj 162, jj 163, jj 164, jj 165, jj 166, jj 167, jj 168, jj 169, jj 170, jj 171, jj 172, jj 173, jj 174, jj 175, jj 176, jj 177, jj 178, jj 179, jj 180, jj 181, jj 182, jj 183, jj 184, jj 185, jj 186, jj 187, jj 188, jj 189, jj 190, jj 191, jj 192, jj 193, jj 194]) ∧ i + k = 16 ∧ Ch [] w w' ∧ Blk w' bh (h.l.map v32) 232 ∧ Blk w' c ((List.replicate 8 (0 : UInt32)).map v32) 232 ∧ Blk w' bw ((sch bs i ++ List.replicate (64 - (sch bs i).length) 0).map v32) 246) 16
    ⟨0, exj rfl, rfl, hch, hH, hC, hW⟩ ?_
  rintro k l w4 ⟨i, ⟨jj, rfl⟩, hik, hch4, hH4, hC4, hW4⟩
  have hsl := sch_len bs i
  (try refine wk ?_)
  refine c_cond rfl (fun h16 => ?_) (fun h16 => ?_)
  · (try refine wk ?_)
    refine c_drawl 35 [] (by kernel_rfl) (by kernel_rfl) (by kernel_rfl) (fun w5 hc5 hs5 => ?_)
    have hR5 := hR.ch (hch4.then hc5)
    have hg : ∀ {j : Nat} {x : UInt8} {q : Int}, bs[q.toNat]? = some x → q = (j : Int) → x = bs.getD j 0 := by
      intro j x q hx hq
      subst hq
      rw [Int.toNat_natCast] at hx
      rw [List.getD_eq_getElem?_getD, hx]
      rfl
    (try refine wkg ?_)
    (try ((with_reducible apply is_gg); first | refine gtg ?_ | refine gfg ?_ | refine gug ?_)); refine ixg hR5 (fun b o x hx hA => ?_)
    obtain rfl := hg (j := 4 * i) hx (by omega)
    (try ((with_reducible apply is_gg); first | refine gtg ?_ | refine gfg ?_ | refine gug ?_)); refine ldg hA ?_
    (try refine wkg ?_)
    (try ((with_reducible apply is_gg); first | refine gtg ?_ | refine gfg ?_ | refine gug ?_)); refine ixg hR5 (fun b o x hx hA => ?_)
    obtain rfl := hg (j := 4 * i + 1) hx (by omega)
    (try ((with_reducible apply is_gg); first | refine gtg ?_ | refine gfg ?_ | refine gug ?_)); refine ldg hA ?_
    (try refine wkg ?_)
    (try ((with_reducible apply is_gg); first | refine gtg ?_ | refine gfg ?_ | refine gug ?_)); refine ixg hR5 (fun b o x hx hA => ?_)
    obtain rfl := hg (j := 4 * i + 2) hx (by omega)
    (try ((with_reducible apply is_gg); first | refine gtg ?_ | refine gfg ?_ | refine gug ?_)); refine ldg hA ?_
    (try refine wkg ?_)
    (try ((with_reducible apply is_gg); first | refine gtg ?_ | refine gfg ?_ | refine gug ?_)); refine ixg hR5 (fun b o x hx hA => ?_)
    obtain rfl := hg (j := 4 * i + 3) hx (by omega)
    (try ((with_reducible apply is_gg); first | refine gtg ?_ | refine gfg ?_ | refine gug ?_)); refine ldg hA ?_
    (try refine wkg ?_)
    refine lastg rfl (by kernel_rfl) (fun w6 hc6 => ?_)
    refine stb (v := v32 (word bs i)) ((hW4.ch hc5 (by simp)).ch hc6 (by simp)) rfl rfl rfl rfl (by simp; omega) (fun w7 hB7 hch7 hs7 => ?_)
    rw [set_next (by omega) (by omega)] at hB7
    refine x_last rfl rfl (fun w8 hc8 => ?_)
    have hc48 : Ch [bw] w4 w8 := (((Ch.some hc5).add hc6).then hch7).add hc8
    (try refine wk ?_)
    refine x_goes (k - 1) rfl (by omega) ⟨i + 1, exj rfl, by omega, hch4.own hc48 (by omega), hH4.ch hc48 (by simp; omega), hC4.ch hc48 (by simp; omega), ?_⟩
    have e : nextW bs (sch bs i) = word bs i := by unfold nextW; rw [hsl, if_pos (by omega)]
    rw [sch, e]
    exact hB7.ch hc8 (by simp)
  · (try refine wk ?_)
    obtain rfl : i = 16 := by omega
    
    refine c_loop (fun k l w' => ∃ (i : Nat), (∃ jj : Nat → Value, l = [jj 0, jj 1, .pointer (some ⟨bh, 0, none⟩), jj 3, .pointer (some ⟨c, 0, none⟩), .pointer (some ⟨bw, 0, none⟩), jj 6, .int .i64 (i : Int), jj 8, jj 9, jj 10, jj 11, jj 12, jj 13, jj 14, jj 15, jj 16, jj 17, jj 18, jj 19, jj 20, jj 21, jj 22, jj 23, jj 24, jj 25, jj 26, jj 27, jj 28, jj 29, jj 30, jj 31, jj 32, jj 33, jj 34, jj 35, jj 36, jj 37, jj 38, jj 39, jj 40, jj 41, jj 42, jj 43, jj 44, jj 45, jj 46, jj 47, jj 48, jj 49, jj 50, jj 51, jj 52, jj 53, jj 54, jj 55, jj 56, jj 57, jj 58, jj 59, jj 60, jj 61, jj 62, jj 63, jj 64, jj 65, jj 66, jj 67, jj 68, jj 69, jj 70, jj 71, jj 72, jj 73, jj 74, jj 75, jj 76, jj 77, jj 78, jj 79, jj 80, jj 81, jj 82, jj 83, jj 84, jj 85, jj 86, jj 87, jj 88, jj 89, jj 90, jj 91, jj 92, jj 93, jj 94, jj 95, jj 96, jj 97, jj 98, jj 99, jj 100, jj 101, jj 102, jj 103, jj 104, jj 105, jj 106, jj 107, jj 108, jj 109, jj 110, jj 111, jj 112, jj 113, jj 114, jj 115, jj 116, jj 117, jj 118, jj 119, jj 120, jj 121, jj 122, jj 123, jj 124, jj 125, jj 126, jj 127, jj 128, jj 129, jj 130, jj 131, jj 132, jj 133, jj 134, jj 135, jj 136, jj 137, jj 138, jj 139, jj 140, jj 141, jj 142, jj 143, jj 144, jj 145, jj 146, jj 147, jj 148, jj 149, jj 150, jj 151, jj 152, jj 153, jj 154, jj 155, jj 156, jj 157, jj 158, jj 159, jj 160, jj 161, jj 162, jj 163, jj 164, jj 165, jj 166, jj 167, jj 168, jj 169, jj 170, jj 171, jj 172, jj 173, jj 174, jj 175, jj 176, jj 177, jj 178, jj 179, jj 180, jj 181, jj 182, jj 183, jj 184, jj 185, jj 186, jj 187, jj 188, jj 189, jj 190, jj 191, jj 192, jj 193, jj 194]) ∧ i + k = 64 ∧ 16 ≤ i ∧ Ch [] w w' ∧ Blk w' bh (h.l.map v32) 232 ∧ Blk w' c ((List.replicate 8 (0 : UInt32)).map v32) 232 ∧ Blk w' bw ((sch bs i ++ List.replicate (64 - (sch bs i).length) 0).map v32) 246) 48
      ⟨16, exj rfl, rfl, by omega, hch4, hH4, hC4, hW4⟩ ?_
    clear hch4 hH4 hC4 hW4 hsl h16 hik
    rintro k l w4 ⟨i, ⟨jj, rfl⟩, hik, hi16, hch4, hH4, hC4, hW4⟩
    have hsl := sch_len bs i
    (try refine wk ?_)
    refine c_cond rfl (fun h64 => ?_) (fun h64 => ?_)
    · (try refine wk ?_)
      refine c_draw [] (by kernel_rfl) (by kernel_rfl) (fun w5 hc5 hs5 => ?_)
      have hW5 := hW4.ch hc5 (by simp)
      (try refine wkg ?_)
      refine ldbg hW5 (by simp) rfl (get_pad (i := i - 15) (by omega) (by omega)) ?_
      (try refine wkg ?_)
      refine ldbg hW5 (by simp) rfl (get_pad (i := i - 2) (by omega) (by omega)) ?_
      (try refine wkg ?_)
      intro w6 hc6
      (try refine wk ?_)
      refine c_drawl 29 [] (by kernel_rfl) (by kernel_rfl) (by kernel_rfl) (fun w7 hc7 hs7 => ?_)
      have hW7 := (hW5.ch hc6 (by simp)).ch hc7 (by simp)
      (try refine wkg ?_)
      refine ldbg hW7 (by simp) rfl (get_pad (i := i - 16) (by omega) (by omega)) ?_
      (try refine wkg ?_)
      (try ((with_reducible apply is_gg); first | refine gtg ?_ | refine gfg ?_ | refine gug ?_)); refine cag (turn_g _ 7 (by omega)) ?_
      (try refine wkg ?_)
      (try ((with_reducible apply is_gg); first | refine gtg ?_ | refine gfg ?_ | refine gug ?_)); refine cag (turn_g _ 18 (by omega)) ?_
      (try refine wkg ?_)
      refine ldbg hW7 (by simp) rfl (get_pad (i := i - 7) (by omega) (by omega)) ?_
      (try refine wkg ?_)
      (try ((with_reducible apply is_gg); first | refine gtg ?_ | refine gfg ?_ | refine gug ?_)); refine cag (turn_g _ 17 (by omega)) ?_
      (try refine wkg ?_)
      (try ((with_reducible apply is_gg); first | refine gtg ?_ | refine gfg ?_ | refine gug ?_)); refine cag (turn_g _ 19 (by omega)) ?_
      (try refine wkg ?_)
      refine lastg rfl (by kernel_rfl) (fun w8 hc8 => ?_)
      have e : nextW bs (sch bs i) = (((sch bs i).getD (i - 16) 0 + sg0 ((sch bs i).getD (i - 15) 0)) + (sch bs i).getD (i - 7) 0) + sg1 ((sch bs i).getD (i - 2) 0) := by unfold nextW; rw [hsl, if_neg (by omega)]
      refine stb (v := v32 ((((sch bs i).getD (i - 16) 0 + sg0 ((sch bs i).getD (i - 15) 0)) + (sch bs i).getD (i - 7) 0) + sg1 ((sch bs i).getD (i - 2) 0))) (hW7.ch hc8 (by simp)) rfl rfl rfl rfl (by simp; omega) (fun w9 hB9 hch9 hs9 => ?_)
      rw [set_next (by omega) (by omega), ← e] at hB9
      refine x_last rfl rfl (fun w10 hc10 => ?_)
      have hc410 : Ch [bw] w4 w10 := ((((((Ch.some hc5).add hc6).add hc7).add hc8)).then hch9).add hc10
      (try refine wk ?_)
      refine x_goes (k - 1) rfl (by omega) ⟨i + 1, exj rfl, by omega, by omega, hch4.own hc410 (by omega), hH4.ch hc410 (by simp; omega), hC4.ch hc410 (by simp; omega), hB9.ch hc10 (by simp)⟩
    · obtain rfl : i = 64 := by omega
      have hz : (sch bs 64 ++ List.replicate (64 - (sch bs 64).length) 0) = sch bs 64 := by rw [hsl]; simp
      rw [hz] at hW4
      generalize hWW : sch bs 64 = W at hW4 hsl
      (try refine wk ?_)
      (try ((with_reducible apply is_gd); first | refine gt ?_ | refine gf ?_ | refine gu ?_)); refine ca (keys_any w4) ?_
      rintro _ w5 ⟨rfl, hc5⟩
      (try refine wk ?_)
      refine wl_alloc (fun w6 bk hk => ?_)
      have hbk : bw < bk := by rw [hk.at_]; exact (hW4.ch hc5 (by simp)).lt
      have hK0 : Blk w6 bk ((List.replicate 64 (0 : UInt32)).map v32) 246 := hk.blk
      (try refine wk ?_)
      refine stbw (n := 64) hK0 rfl rfl rfl (by simp) one_32 (fun w7 hK7 hch7 hs7 => ?_)
      have hc47 : Ch [bk] w4 w7 := ((Ch.some hc5).add hk.ch).then hch7
      have hc7 : Ch [] w w7 := hch4.own hc47 (by omega)
      have hH7 := hH4.ch hc47 (by simp; omega)
      have hC7 := hC4.ch hc47 (by simp; omega)
      have hW7 := hW4.ch hc47 (by simp; omega)
      (try refine wk ?_)
      refine ldbr hH7 rfl (ds := h.l.map v32) rfl rfl ?_
      (try refine wk ?_)
      refine wl_alloc (fun w8 bv hv => ?_)
      have hbv : bk < bv := by rw [hv.at_]; exact hK7.lt
      (try refine wk ?_)
      refine stbw (n := 8) hv.blk rfl rfl rfl rfl one_32 (fun w9 hV9 hch9 hs9 => ?_)
      have hc79 : Ch [bv] w7 w9 := (Ch.some hv.ch).then hch9
      (try refine wk ?_)
      
      refine c_loop (fun k l w' => ∃ (i : Nat), (∃ jj : Nat → Value, l = [jj 0, jj 1, .pointer (some ⟨bh, 0, none⟩), jj 3, .pointer (some ⟨c, 0, none⟩), .pointer (some ⟨bw, 0, none⟩), jj 6, jj 7, jj 8, jj 9, .pointer (some ⟨bk, 0, none⟩), .pointer (some ⟨bv, 0, none⟩), .int .i64 (i : Int), jj 13, jj 14, jj 15, jj 16, jj 17, jj 18, jj 19, jj 20, jj 21, jj 22, jj 23, jj 24, jj 25, jj 26, jj 27, jj 28, jj 29, jj 30, jj 31, jj 32, jj 33, jj 34, jj 35, jj 36, jj 37, jj 38, jj 39, jj 40, jj 41, jj 42, jj 43, jj 44, jj 45, jj 46, jj 47, jj 48, jj 49, jj 50, jj 51, jj 52, jj 53, jj 54, jj 55, jj 56, jj 57, jj 58, jj 59, jj 60, jj 61, jj 62, jj 63, jj 64, jj 65, jj 66, jj 67, jj 68, jj 69, jj 70, jj 71, jj 72, jj 73, jj 74, jj 75, jj 76, jj 77, jj 78, jj 79, jj 80, jj 81, jj 82, jj 83, jj 84, jj 85, jj 86, jj 87, jj 88, jj 89, jj 90, jj 91, jj 92, jj 93, jj 94, jj 95, jj 96, jj 97, jj 98, jj 99, jj 100, jj 101, jj 102, jj 103, jj 104, jj 105, jj 106, jj 107, jj 108, jj 109, jj 110, jj 111, jj 112, jj 113, jj 114, jj 115, jj 116, jj 117, jj 118, jj 119, jj 120, jj 121, jj 122, jj 123, jj 124, jj 125, jj 126, jj 127, jj 128, jj 129, jj 130, jj 131, jj 132, jj 133, jj 134, jj 135, jj 136, jj 137, jj 138, jj 139, jj 140, jj 141, jj 142, jj 143, jj 144, jj 145, jj 146, jj 147, jj 148, jj 149, jj 150, jj 151, jj 152, jj 153, jj 154, jj 155, jj 156, jj 157, jj 158, jj 159, jj 160, jj 161, jj 162, jj 163, jj 164, jj 165, jj 166, jj 167, jj 168, jj 169, jj 170, jj 171, jj 172, jj 173, jj 174, jj 175, jj 176, jj 177, jj 178, jj 179, jj 180, jj 181, jj 182, jj 183, jj 184, jj 185, jj 186, jj 187, jj 188, jj 189, jj 190, jj 191, jj 192, jj 193, jj 194]) ∧ i + k = 64 ∧ Ch [] w w' ∧ Blk w' bh (h.l.map v32) 232 ∧ Blk w' c ((List.replicate 8 (0 : UInt32)).map v32) 232 ∧ Blk w' bw (W.map v32) 246 ∧ Blk w' bk (K256.map v32) 246 ∧ Blk w' bv ((runs W i h).l.map v32) 232) 64
        ⟨0, exj rfl, rfl, hc7.own hc79 (by omega), hH7.ch hc79 (by simp; omega), hC7.ch hc79 (by simp; omega), hW7.ch hc79 (by simp; omega), hK7.ch hc79 (by simp; omega), hV9⟩ ?_
      rintro k l w10 ⟨i, ⟨jj, rfl⟩, hik, hc10, hH10, hC10, hW10, hK10, hV10⟩
      generalize hs : runs W i h = s at hV10
      (try refine wk ?_)
      refine c_cond rfl (fun h64 => ?_) (fun h64 => ?_)
      · (try refine wk ?_)
        refine c_draw [] (by kernel_rfl) (by kernel_rfl) (fun w11 hc11 hs11 => ?_)
        have hV11 := hV10.ch hc11 (by simp)
        (try refine wkg ?_)
        refine ldbg (v := v32 s.a) hV11 (by simp) rfl rfl ?_
        (try refine wkg ?_)
        refine ldbg (v := v32 s.e) hV11 (by simp) rfl rfl ?_
        (try refine wkg ?_)
        intro w12 hc12
        (try refine wk ?_)
        refine c_draw [] (by kernel_rfl) (by kernel_rfl) (fun w13 hc13 hs13 => ?_)
        have hc1013 : Ch [] w10 w13 := (hc11.then hc12).then hc13
        have hV13 := hV10.ch hc1013 (by simp)
        have hK13 := hK10.ch hc1013 (by simp)
        have hW13 := hW10.ch hc1013 (by simp)
        (try refine wkg ?_)
        refine ldbg (v := v32 s.h) hV13 (by simp) rfl rfl ?_
        (try refine wkg ?_)
        (try ((with_reducible apply is_gg); first | refine gtg ?_ | refine gfg ?_ | refine gug ?_)); refine cag (turn_g _ 6 (by omega)) ?_
        (try refine wkg ?_)
        (try ((with_reducible apply is_gg); first | refine gtg ?_ | refine gfg ?_ | refine gug ?_)); refine cag (turn_g _ 11 (by omega)) ?_
        (try refine wkg ?_)
        (try ((with_reducible apply is_gg); first | refine gtg ?_ | refine gfg ?_ | refine gug ?_)); refine cag (turn_g _ 25 (by omega)) ?_
        (try refine wkg ?_)
        refine ldbg (v := v32 s.f) hV13 (by simp) rfl rfl ?_
        (try refine wkg ?_)
        refine ldbg (v := v32 s.g) hV13 (by simp) rfl rfl ?_
        (try refine wkg ?_)
        refine ldbg hK13 (by simp) rfl (mg' v32 (i := i) 0 (by omega) (by show i < 64; omega)) ?_
        (try refine wkg ?_)
        refine ldbg hW13 (by simp) rfl (mg' v32 (i := i) 0 (by omega) (by omega)) ?_
        (try refine wkg ?_)
        intro w14 hc14
        rw [chz_eq]
        (try refine wk ?_)
        refine c_draw [] (by kernel_rfl) (by kernel_rfl) (fun w15 hc15 hs15 => ?_)
        have hc1015 : Ch [] w10 w15 := (hc1013.then hc14).then hc15
        have hV15 := hV10.ch hc1015 (by simp)
        (try refine wkg ?_)
        (try ((with_reducible apply is_gg); first | refine gtg ?_ | refine gfg ?_ | refine gug ?_)); refine cag (turn_g _ 2 (by omega)) ?_
        (try refine wkg ?_)
        (try ((with_reducible apply is_gg); first | refine gtg ?_ | refine gfg ?_ | refine gug ?_)); refine cag (turn_g _ 13 (by omega)) ?_
        (try refine wkg ?_)
        (try ((with_reducible apply is_gg); first | refine gtg ?_ | refine gfg ?_ | refine gug ?_)); refine cag (turn_g _ 22 (by omega)) ?_
        (try refine wkg ?_)
        refine ldbg (v := v32 s.b) hV15 (by simp) rfl rfl ?_
        (try refine wkg ?_)
        refine ldbg (v := v32 s.c) hV15 (by simp) rfl rfl ?_
        (try refine wkg ?_)
        refine ldbg (v := v32 s.b) hV15 (by simp) rfl rfl ?_
        (try refine wkg ?_)
        refine ldbg (v := v32 s.c) hV15 (by simp) rfl rfl ?_
        (try refine wkg ?_)
        intro w16 hc16
        rw [maj_eq]
        have hc1016 := hc1015.then hc16
        have hV16 := hV10.ch hc1016 (by simp)
        (try refine wk ?_)
        refine ldb (v := v32 s.a) hV16 rfl rfl ?_
        (try refine wk ?_)
        refine ldb (v := v32 s.b) hV16 rfl rfl ?_
        (try refine wk ?_)
        refine ldb (v := v32 s.c) hV16 rfl rfl ?_
        (try refine wk ?_)
        refine ldb (v := v32 s.d) hV16 rfl rfl ?_
        (try refine wk ?_)
        refine ldb (v := v32 s.e) hV16 rfl rfl ?_
        (try refine wk ?_)
        refine ldb (v := v32 s.f) hV16 rfl rfl ?_
        (try refine wk ?_)
        refine ldb (v := v32 s.g) hV16 rfl rfl ?_
        rw [← UInt32.add_assoc]
        refine wl_val (r_build_arr (vs := (rnd (K256.getD i 0) (W.getD i 0) s).l.map v32) rfl rfl (by intro u hu; obtain ⟨x, _, rfl⟩ := List.mem_map.1 hu; rfl)) ?_
        refine stbw (n := 8) (vs := (rnd (K256.getD i 0) (W.getD i 0) s).l.map v32) hV16 rfl rfl rfl rfl one_32 (fun w17 hV17 hch17 hs17 => ?_)
        have hc1017 : Ch [bv] w10 w17 := (Ch.some hc1016).then hch17
        (try refine wk ?_)
        refine x_goes (k - 1) rfl (by omega) ⟨i + 1, exj rfl, by omega, hc10.own hc1017 (by omega), hH10.ch hc1017 (by simp; omega), hC10.ch hc1017 (by simp; omega), hW10.ch hc1017 (by simp; omega), hK10.ch hc1017 (by simp; omega), ?_⟩
        rw [runs, hs]
        exact hV17
      · (try refine wk ?_)
        obtain rfl : i = 64 := by omega
        
        refine c_loop (fun k l w' => ∃ (i : Nat), (∃ jj : Nat → Value, l = [jj 0, jj 1, .pointer (some ⟨bh, 0, none⟩), jj 3, .pointer (some ⟨c, 0, none⟩), jj 5, jj 6, jj 7, jj 8, jj 9, jj 10, .pointer (some ⟨bv, 0, none⟩), jj 12, jj 13, jj 14, jj 15, jj 16, jj 17, jj 18, jj 19, jj 20, jj 21, jj 22, jj 23, jj 24, jj 25, jj 26, jj 27, jj 28, jj 29, jj 30, jj 31, jj 32, jj 33, jj 34, jj 35, jj 36, jj 37, jj 38, jj 39, jj 40, jj 41, jj 42, jj 43, jj 44, jj 45, jj 46, jj 47, jj 48, jj 49, jj 50, jj 51, jj 52, jj 53, jj 54, jj 55, jj 56, jj 57, jj 58, jj 59, jj 60, jj 61, jj 62, jj 63, jj 64, jj 65, jj 66, jj 67, jj 68, jj 69, jj 70, jj 71, jj 72, jj 73, jj 74, jj 75, jj 76, jj 77, jj 78, jj 79, jj 80, jj 81, jj 82, jj 83, jj 84, jj 85, jj 86, jj 87, jj 88, jj 89, jj 90, jj 91, jj 92, jj 93, jj 94, jj 95, jj 96, jj 97, jj 98, jj 99, jj 100, jj 101, jj 102, jj 103, jj 104, jj 105, jj 106, jj 107, jj 108, jj 109, jj 110, jj 111, jj 112, jj 113, jj 114, jj 115, jj 116, jj 117, jj 118, jj 119, jj 120, jj 121, jj 122, jj 123, jj 124, jj 125, jj 126, jj 127, jj 128, jj 129, jj 130, jj 131, jj 132, jj 133, jj 134, jj 135, jj 136, jj 137, jj 138, jj 139, jj 140, jj 141, jj 142, jj 143, jj 144, jj 145, jj 146, jj 147, jj 148, jj 149, jj 150, jj 151, jj 152, jj 153, jj 154, jj 155, jj 156, jj 157, jj 158, jj 159, jj 160, jj 161, jj 162, jj 163, jj 164, jj 165, jj 166, jj 167, jj 168, jj 169, jj 170, jj 171, jj 172, jj 173, jj 174, jj 175, jj 176, jj 177, jj 178, jj 179, jj 180, jj 181, .int .i64 (i : Int), jj 183, jj 184, jj 185, jj 186, jj 187, jj 188, jj 189, jj 190, jj 191, jj 192, jj 193, jj 194]) ∧ i + k = 8 ∧ Ch [] w w' ∧ Blk w' c ((List.replicate 8 (0 : UInt32)).map v32) 232 ∧ Blk w' bh ((mix h.l s.l i).map v32) 232 ∧ Blk w' bv (s.l.map v32) 232) 8
          ⟨0, exj rfl, rfl, hc10, hC10, hH10, hV10⟩ ?_
        rintro k l w11 ⟨i, ⟨jj, rfl⟩, hik, hc11, hC11, hH11, hV11⟩
        have hml := mix_len h.l s.l i
        (try refine wk ?_)
        refine c_cond rfl (fun h8 => ?_) (fun h8 => ?_)
        · (try refine wk ?_)
          refine c_drawl 8 [] (by kernel_rfl) (by kernel_rfl) (by kernel_rfl) (fun w12 hc12 hs12 => ?_)
          have hH12 := hH11.ch hc12 (by simp)
          have hV12 := hV11.ch hc12 (by simp)
          (try refine wkg ?_)
          refine ldbg (v := v32 (h.l.getD i 0)) hH12 (by simp) rfl (by
            rw [mg' v32 (i := i) 0 (by omega) (by omega), mix_get _ _ (by omega), if_neg (by omega)]) ?_
          (try refine wkg ?_)
          refine ldbg (v := v32 (s.l.getD i 0)) hV12 (by simp) rfl (mg' v32 (i := i) 0 (by omega) (by show i < 8; omega)) ?_
          (try refine wkg ?_)
          refine lastg rfl (by kernel_rfl) (fun w13 hc13 => ?_)
          refine stb (v := v32 (h.l.getD i 0 + s.l.getD i 0)) (hH12.ch hc13 (by simp)) rfl rfl rfl rfl (by simp [hml]; omega) (fun w14 hB14 hch14 hs14 => ?_)
          rw [← List.map_set, show 0 + ((i : Int)).toNat * 1 = i by omega, mix_set _ _ (by omega)] at hB14
          refine x_last rfl rfl (fun w15 hc15 => ?_)
          have hc1115 : Ch [bh] w11 w15 := (((Ch.some hc12).add hc13).then hch14).add hc15
          (try refine wk ?_)
          refine x_goes (k - 1) rfl (by omega) ⟨i + 1, exj rfl, by omega, hc11.own hc1115 (by omega), hC11.ch hc1115 (by simp; omega), hB14.ch hc15 (by simp), hV11.ch hc1115 (by simp; omega)⟩
        · (try refine wk ?_)
          obtain rfl : i = 8 := by omega
          rw [mix_all] at hH11
          refine ldbr hH11 rfl (ds := (h.add s).l.map v32) rfl rfl ?_
          (try refine wk ?_)
          refine stbw (n := 8) hC11 rfl rfl rfl (by simp) one_32 (fun w12 hC12 hch12 hs12 => ?_)
          (try refine wk ?_)
          subst hs
          subst hWW
          exact outc rfl rfl (hC12.row (n := 8) (o := 0) (ds := (squeeze h bs).l.map v32) rfl) rfl ⟨rfl, hc11.own hch12 (by omega)⟩
end Go.Proofs.YtoimhmphhffelaaGreatDoor
set_option linter.unusedVariables false
set_option linter.unusedSimpArgs false
namespace Go.Proofs.YtoimhmphhffelaaGreatDoor
open Go Go.RowKit Go.Proofs.E
attribute [local irreducible] Go.wpList Go.Code.wp Go.Proofs.E.exec Go.Proofs.E.wpLexG

set_option maxHeartbeats 8000000 in
theorem padded_any (v : Value) (bs : List UInt8) (w : World) (hR : (Ty.enc eU8).Rd [] w v bs) (hT : bs.length ≤ 140737488355200) :
    Calls Tryz.prog 212 #[v] w (Ret fun u w' => Own eU8 w' w.heap.size 5 u (bs ++ tail bs.length) ∧ Ch [] w w') := by
  refine enter [v, undef, undef, undef, undef, undef, undef, undef, undef, undef, undef, undef, undef, undef, undef, undef, undef, undef, undef, undef, undef, undef, undef, undef, undef, undef, undef, undef, undef, undef, undef, undef, undef, undef, undef, undef] Tryz.func212 rfl rfl ?_
  (try refine wk ?_)
  refine wl_buildSlice (vs := []) rfl rfl (by simp) (by decide) (fun w1 d hd => ?_)
  have hO1 : Own eU8 w1 w.heap.size 5 (.slice (some ⟨d, 0, none⟩) 0 0) [] := Own.of_new (en := eU8) hd rfl (Nat.le_refl _) (by simp) rfl
  (try refine wk ?_)
  refine apb (v := .slice (some ⟨d, 0, none⟩) 0 0) rfl rfl hO1 hd.ch.size rfl (hR.ch hd.ch) (by simp; omega) (by simp; omega) (fun v2 w2 hO2 hc2 hat2 => ?_)
  have hc02 : Ch [] w w2 := hd.ch.trans hc2 (by simp) (fun x hx hm => by
    have := (hO1.lt (k := x) (by simpa using hm)).1
    omega)
  rw [List.nil_append] at hO2
  (try refine wk ?_)
  (try ((with_reducible apply is_gd); first | refine gt ?_ | refine gf ?_ | refine gu ?_)); refine pu (0x80 : UInt8) hO2 hc02.size (fun _ v3 w3 hO3 hc3 hat3 => ?_)
  have hc03 : Ch [] w w3 := hc02.trans hc3 (by simp) (fun x hx hm => by
    have := (hO2.lt (k := x) (by simpa using hm)).1
    omega)
  (try refine wk ?_)
  
  refine c_loop (fun k l w' => ∃ (u : Value) (xs : List UInt8), (∃ jj : Nat → Value, l = [v, jj 1, jj 2, u, jj 4, jj 5, jj 6, jj 7, jj 8, jj 9, jj 10, jj 11, jj 12, jj 13, jj 14, jj 15, jj 16, jj 17, jj 18, jj 19, jj 20, jj 21, jj 22, jj 23, jj 24, jj 25, jj 26, jj 27, jj 28, jj 29, jj 30, jj 31, jj 32, jj 33, jj 34, jj 35]) ∧ k = (120 - xs.length % 64) % 64 ∧ xs.length + k ≤ bs.length + 65 ∧ xs ++ List.replicate k 0 = bs ++ 0x80 :: List.replicate ((120 - (bs.length + 1) % 64) % 64) 0 ∧ Own eU8 w' w.heap.size 5 u xs ∧ Ch [] w w') ((120 - (bs.length + 1) % 64) % 64)
    ⟨_, _, exj rfl, by simp, by simp; omega, by simp, hO3, hc03⟩ ?_
  rintro k l w4 ⟨u, xs, ⟨jj, rfl⟩, hk, hkl, hxs, hO4, hc4⟩
  obtain ⟨A, cap, rfl, hcap⟩ := hO4.form
  (try refine wk ?_)
  rw [show ((xs.length : Int)).tmod 64 = ((xs.length % 64 : Nat) : Int) by rfl]
  refine c_cond rfl (fun h => ?_) (fun h => ?_)
  · obtain ⟨k, rfl⟩ : ∃ k', k = k' + 1 := ⟨k - 1, by omega⟩
    (try refine wk ?_)
    (try ((with_reducible apply is_gd); first | refine gt ?_ | refine gf ?_ | refine gu ?_)); refine pu (0 : UInt8) hO4 hc4.size (fun _ v5 w5 hO5 hc5 hat5 => ?_)
    have hc05 : Ch [] w w5 := hc4.trans hc5 (by simp) (fun x hx hm => by
      have := (hO4.lt (k := x) (by simpa using hm)).1
      omega)
    (try refine wk ?_)
    refine x_goes k rfl (by omega) ⟨v5, xs ++ [0], exj rfl, by simp; omega, by simp; omega, by rw [← hxs, List.append_assoc]; rfl, hO5, hc05⟩
  · obtain rfl : k = 0 := by omega
    rw [List.replicate_zero, List.append_nil] at hxs
    obtain ⟨B, cap2, rfl⟩ := hR.form
    (try refine wk ?_)
    have hN : IntKind.u64.wrap ((bs.length : Int) * 8) = ((8 * bs.length : Nat) : Int) := by rw [wrap_u64 (by omega)]; omega
    try rw [hN]
    try rw [show (bs.length : Int) * 8 = ((8 * bs.length : Nat) : Int) by omega]
    
    refine c_loop (fun k l w' => ∃ (u : Value) (ys : List UInt8), (∃ jj : Nat → Value, l = [jj 0, jj 1, jj 2, u, .int .u64 ((8 * bs.length : Nat) : Int), .int .i64 ((k : Int) - 1), jj 6, jj 7, jj 8, jj 9, jj 10, jj 11, jj 12, jj 13, jj 14, jj 15, jj 16, jj 17, jj 18, jj 19, jj 20, jj 21, jj 22, jj 23, jj 24, jj 25, jj 26, jj 27, jj 28, jj 29, jj 30, jj 31, jj 32, jj 33, jj 34, jj 35]) ∧ k ≤ 8 ∧ ys.length + k = xs.length + 8 ∧ ys ++ lenUp (8 * bs.length) k = bs ++ tail bs.length ∧ Own eU8 w' w.heap.size 5 u ys ∧ Ch [] w w') 8
      ⟨_, xs, exj rfl, by omega, rfl, by rw [hxs]; simp [tail], hO4, hc4⟩ ?_
    rintro k l w5 ⟨u, ys, ⟨jj, rfl⟩, hk5, hl5, hys, hO5, hc5⟩
    (try refine wk ?_)
    refine c_cond rfl (fun h8 => ?_) (fun h8 => ?_)
    · obtain ⟨k, rfl⟩ : ∃ k', k = k' + 1 := ⟨k - 1, by omega⟩
      have he : IntKind.u8.wrap (((8 * bs.length : Nat) : Int).fdiv (2 ^ min (8 * (((k + 1 : Nat) : Int) - 1)).toNat IntKind.u64.bits)) = ((UInt8.ofNat (8 * bs.length / 2 ^ (8 * k))).toNat : Int) := by
        rw [show (8 * (((k + 1 : Nat) : Int) - 1)).toNat = 8 * k by omega, Nat.min_eq_left (show 8 * k ≤ IntKind.u64.bits by simp only [IntKind.bits]; omega)]
        rw [show ((2 : Int) ^ (8 * k)) = ((2 ^ (8 * k) : Nat) : Int) by simp, Int.fdiv_eq_ediv_of_nonneg _ (by exact_mod_cast Nat.zero_le _), ← Int.natCast_ediv, wrap8, UInt8.toNat_ofNat']
      (try refine wk ?_)
      rw [he]
      (try ((with_reducible apply is_gd); first | refine gt ?_ | refine gf ?_ | refine gu ?_)); refine pu (UInt8.ofNat (8 * bs.length / 2 ^ (8 * k))) hO5 hc5.size (fun _ v6 w6 hO6 hc6 hat6 => ?_)
      have hc06 : Ch [] w w6 := hc5.trans hc6 (by simp) (fun x hx hm => by
        have := (hO5.lt (k := x) (by simpa using hm)).1
        omega)
      (try refine wk ?_)
      refine x_goes k rfl (by omega) ⟨v6, ys ++ [UInt8.ofNat (8 * bs.length / 2 ^ (8 * k))], exj (by rw [show (k : Int) - 1 = ((k + 1 : Nat) : Int) - 1 - 1 by omega]; rfl), by omega, by simp; omega, by rw [← hys, List.append_assoc]; rfl, hO6, hc06⟩
    · obtain rfl : k = 0 := by omega
      (try refine wk ?_)
      refine out1 rfl ⟨?_, hc5⟩
      rw [← hys, show ys ++ lenUp (8 * bs.length) 0 = ys by simp [lenUp]]
      exact hO5

set_option maxHeartbeats 8000000 in
theorem rsum_any (v : Value) (bs : List UInt8) (w : World) (hR : (Ty.enc eU8).Rd [] w v bs) (hT : bs.length ≤ 140737488355200) :
    Calls Tryz.prog 184 #[v] w (Ret fun u w' => u = hv (shaOf bs) ∧ Ch [] w w') := by
  refine enter [v, undef, undef, undef, undef, undef, undef, undef, undef, undef, undef, undef, undef, undef, undef, undef, undef, undef, undef, undef, undef, undef, undef, undef, undef, undef, undef, undef, undef, undef, undef, undef, undef, undef, undef, undef, undef, undef, undef, undef, undef, undef, undef, undef, undef, undef, undef, undef, undef, undef, undef, undef, undef, undef, undef, undef, undef, undef] Tryz.func184 rfl rfl ?_
  (try refine wk ?_)
  refine wl_alloc (fun w1 c hc => ?_)
  have hC1 : Blk w1 c ((List.replicate 32 (0 : UInt8)).map u8v) 27 := hc.blk
  have hcw : c = w.heap.size := hc.at_
  (try refine wk ?_)
  refine wl_val (r_build_arr (vs := H0.l.map v32) rfl rfl (by intro u hu; obtain ⟨x, _, rfl⟩ := List.mem_map.1 hu; rfl)) ?_
  refine wl_alloc (fun w2 b hb => ?_)
  have hcb : b = c + 1 := by rw [hb.at_, hc.size]
  refine stbw (n := 8) (vs := H0.l.map v32) hb.blk rfl rfl rfl rfl one_32 (fun w3 hB3 hch3 hs3 => ?_)
  have hc13 : Ch [b] w1 w3 := (Ch.some hb.ch).then hch3
  have hc3 : Ch [] w w3 := hc.ch.own hc13 (by omega)
  have hC3 := hC1.ch hc13 (by simp; omega)
  (try refine wk ?_)
  (try ((with_reducible apply is_gd); first | refine gt ?_ | refine gf ?_ | refine gu ?_)); refine ca (padded_any v bs w3 (hR.ch hc3) hT) ?_
  rintro p w4 ⟨hO4, hc4⟩
  obtain ⟨A, cap, hp, hcap⟩ := hO4.form
  have hsum : shaOf bs = digest ((bs ++ tail bs.length).foldl put1 St0).h := rfl
  have htl : ∀ k, (lenUp (8 * bs.length) k).length = k := by
    intro k
    induction k with
    | zero => rfl
    | succ k ih => rw [lenUp, List.length_cons, ih]
  have hpl : (bs ++ tail bs.length).length % 64 = 0 ∧ (bs ++ tail bs.length).length ≤ bs.length + 72 := by
    simp only [tail, List.length_append, List.length_cons, List.length_replicate, htl]
    omega
  have hP4 : (Ty.enc eU8).Rd [] w4 p (bs ++ tail bs.length) := hO4.rd (by simp) (by omega)
  generalize bs ++ tail bs.length = ps at *
  subst hp
  (try refine wk ?_)
  
  refine c_loop (fun k l w' => ∃ (i : Nat), (∃ jj : Nat → Value, l = [jj 0, jj 1, .pointer (some ⟨c, 0, none⟩), .pointer (some ⟨b, 0, none⟩), .slice A ps.length cap, .int .i64 (i : Int), jj 6, jj 7, jj 8, jj 9, jj 10, jj 11, jj 12, jj 13, jj 14, jj 15, jj 16, jj 17, jj 18, jj 19, jj 20, jj 21, jj 22, jj 23, jj 24, jj 25, jj 26, jj 27, jj 28, jj 29, jj 30, jj 31, jj 32, jj 33, jj 34, jj 35, jj 36, jj 37, jj 38, jj 39, jj 40, jj 41, jj 42, jj 43, jj 44, jj 45, jj 46, jj 47, jj 48, jj 49, jj 50, jj 51, jj 52, jj 53, jj 54, jj 55, jj 56, jj 57]) ∧ i + k = ps.length ∧ i % 64 = 0 ∧ Ch [] w w' ∧ Ch [b] w4 w' ∧ Blk w' c ((List.replicate 32 (0 : UInt8)).map u8v) 27 ∧ Blk w' b (((ps.take i).foldl put1 St0).h.l.map v32) 232) ps.length
    ⟨0, exj rfl, by omega, rfl, hc3.then hc4, Ch.refl _ _, hC3.ch hc4 (by simp), hB3.ch hc4 (by simp)⟩ ?_
  rintro k l w5 ⟨i, ⟨jj, rfl⟩, hik, hi64, hc5, hc45, hC5, hB5⟩
  (try refine wk ?_)
  refine c_cond rfl (fun h => ?_) (fun h => ?_)
  · have hil : i + 64 ≤ ps.length := by omega
    have hch : (ps.take (i + 64)) = ps.take i ++ (ps.take (i + 64)).drop i := by
      conv => lhs; rw [← List.take_append_drop i (ps.take (i + 64))]
      rw [List.take_take, Nat.min_eq_left (by omega)]
    have hdl : ((ps.take (i + 64)).drop i).length = 64 := by rw [List.length_drop, List.length_take]; omega
    have hrl : ((ps.take i).foldl put1 St0).rest.length = 64 := put1_rest _ _ rfl
    have hn : ((ps.take i).foldl put1 St0).n = i := by rw [put1_n, List.length_take]; simp only [St0]; omega
    have hst : ((ps.take (i + 64)).foldl put1 St0).h = squeeze ((ps.take i).foldl put1 St0).h ((ps.take (i + 64)).drop i) := by
      conv => lhs; rw [hch]
      rw [List.foldl_append, put_chunk _ _ (by intro e; rw [e] at hdl; simp at hdl) (by rw [hn, hdl]; omega) hrl, hn, hdl, if_pos (by omega), hi64]
      show squeeze _ (splU _ _ _) = _
      congr 1
      simp [splU, hdl, hrl]
    (try refine wk ?_)
    refine c_drawl 7 [] (by kernel_rfl) (by kernel_rfl) (by kernel_rfl) (fun w6 hc6 hs6 => ?_)
    have hB6 := hB5.ch hc6 (by simp)
    have hP6 : (Ty.enc eU8).Rd [] w6 (.slice A ps.length cap) ps := by
      refine Ty.Rd.mv (hO4.rd (S := [b]) (fun q hq => ?_) (by omega)) (hc45.add hc6) (fun _ _ h => h) |>.mv (Ch.refl [] w6) (by simp)
      have := (hO4.lt hq).1
      have := hB3.lt
      simp
      omega
    (try refine wkg ?_)
    refine ldbrg hB6 (by simp) rfl (ds := ((ps.take i).foldl put1 St0).h.l.map v32) rfl rfl ?_
    (try refine wkg ?_)
    refine wg_cut_lh rfl hP6 rfl rfl rfl (by omega) (by omega) (by omega) (fun v' hR' => ?_)
    rw [show ((i : Int) + 64).toNat = i + 64 by omega, show ((i : Int)).toNat = i by omega] at hR'
    (try ((with_reducible apply is_gg); first | refine gtg ?_ | refine gfg ?_ | refine gug ?_)); refine cag (fun w7 hc7 => rblock_any ((ps.take i).foldl put1 St0).h _ hdl v' w7 (hR'.ch hc7)) ?_
    refine lastg rfl (by kernel_rfl) (fun w8 hc8 => ?_)
    refine stbw (n := 8) (vs := (squeeze ((ps.take i).foldl put1 St0).h ((ps.take (i + 64)).drop i)).l.map v32) (hB6.ch hc8 (by simp)) rfl rfl rfl rfl one_32 (fun w9 hB9 hch9 hs9 => ?_)
    rw [← hst] at hB9
    refine x_last rfl rfl (fun w10 hc10 => ?_)
    have hc510 : Ch [b] w5 w10 := (((Ch.some hc6).add hc8).then hch9).add hc10
    (try refine wk ?_)
    refine x_goes (k - 64) rfl (by omega) ⟨i + 64, exj rfl, by omega, by omega, hc5.own hc510 (by omega), hc45.then hc510, hC5.ch hc510 (by simp; omega), hB9.ch hc10 (by simp)⟩
  · obtain rfl : i = ps.length := by omega
    rw [List.take_length] at hB5
    rw [hsum]
    generalize (ps.foldl put1 St0).h = s6 at *
    (try refine wk ?_)
    refine wl_alloc (fun w7 d hd => ?_)
    have hD7 : Blk w7 d ((outK s6 (4 * 0)).map u8v) 27 := hd.blk
    have hdc : b < d := by rw [hd.at_]; exact hB5.lt
    have hc7 : Ch [] w w7 := hc5.then hd.ch
    have hC7 := hC5.ch hd.ch (by simp)
    (try refine wk ?_)
    refine ldbr (hB5.ch hd.ch (by simp)) rfl (ds := s6.l.map v32) rfl rfl ?_
    (try refine wk ?_)
    
    refine c_loop (fun k l w' => ∃ (i : Nat), (∃ jj : Nat → Value, l = [jj 0, jj 1, .pointer (some ⟨c, 0, none⟩), jj 3, jj 4, jj 5, .pointer (some ⟨d, 0, none⟩), jj 7, jj 8, jj 9, jj 10, jj 11, jj 12, jj 13, jj 14, jj 15, jj 16, jj 17, jj 18, jj 19, jj 20, jj 21, jj 22, jj 23, jj 24, .agg (s6.l.map v32).toArray, .int .i64 (i : Int), jj 27, jj 28, jj 29, jj 30, jj 31, jj 32, jj 33, jj 34, jj 35, jj 36, jj 37, jj 38, jj 39, jj 40, jj 41, jj 42, jj 43, jj 44, jj 45, jj 46, jj 47, jj 48, jj 49, jj 50, jj 51, jj 52, jj 53, jj 54, jj 55, jj 56, jj 57]) ∧ i + k = 8 ∧ Ch [] w w' ∧ Blk w' c ((List.replicate 32 (0 : UInt8)).map u8v) 27 ∧ Blk w' d ((outK s6 (4 * i)).map u8v) 27) 8
      ⟨0, exj rfl, rfl, hc7, hC7, hD7⟩ ?_
    rintro k l w8 ⟨i, ⟨jj, rfl⟩, hik, hc8, hC8, hD8⟩
    have hol := outK_len s6
    (try refine wk ?_)
    refine c_cond rfl (fun h8 => ?_) (fun h8 => ?_)
    · (try refine wk ?_)
      refine wl_val (r_index_one (v := v32 (s6.l.getD i 0)) rfl rfl (by omega) (by omega) (mg' v32 (i := i) 0 (by omega) (by show i < 8; omega))) ?_
      (try refine wk ?_)
      refine stb (v := u8v (s6.l.getD i 0 >>> UInt32.ofNat 24).toUInt8) hD8 rfl rfl rfl rfl (by simp [hol]; omega) (fun w9 hD9 hch9 hs9 => ?_)
      rw [outK_set s6 (k := 4 * i) (x := (s6.l.getD i 0 >>> UInt32.ofNat 24).toUInt8) (by omega) (by omega) (byteAt_ s6 i 0 (by omega)).symm] at hD9
      (try refine wk ?_)
      refine stb (v := u8v (s6.l.getD i 0 >>> UInt32.ofNat 16).toUInt8) hD9 rfl rfl rfl rfl (by simp [hol]; omega) (fun w10 hD10 hch10 hs10 => ?_)
      rw [outK_set s6 (k := 4 * i + 1) (x := (s6.l.getD i 0 >>> UInt32.ofNat 16).toUInt8) (by omega) (by omega) (byteAt_ s6 i 1 (by omega)).symm] at hD10
      (try refine wk ?_)
      refine stb (v := u8v (s6.l.getD i 0 >>> UInt32.ofNat 8).toUInt8) hD10 rfl rfl rfl rfl (by simp [hol]; omega) (fun w11 hD11 hch11 hs11 => ?_)
      rw [outK_set s6 (k := 4 * i + 2) (x := (s6.l.getD i 0 >>> UInt32.ofNat 8).toUInt8) (by omega) (by omega) (byteAt_ s6 i 2 (by omega)).symm] at hD11
      (try refine wk ?_)
      refine stb (v := u8v (s6.l.getD i 0).toUInt8) hD11 rfl rfl rfl rfl (by simp [hol]; omega) (fun w12 hD12 hch12 hs12 => ?_)
      rw [outK_set s6 (k := 4 * i + 3) (x := (s6.l.getD i 0).toUInt8) (by omega) (by omega) (byteAt_ s6 i 3 (by omega)).symm] at hD12
      have hch : Ch [d] w8 w12 := ((hch9.then hch10).then hch11).then hch12
      (try refine wk ?_)
      refine x_goes (k - 1) rfl (by omega) ⟨i + 1, exj rfl, by omega, hc8.own hch (by omega), hC8.ch hch (by simp; omega), ?_⟩
      rw [show 4 * (i + 1) = 4 * i + 3 + 1 by omega]
      exact hD12
    · obtain rfl : i = 8 := by omega
      (try refine wk ?_)
      refine ldbr hD8 rfl (ds := (digest s6).map u8v) (by simp [digest, List.take_of_length_le, hol]) (by simp [digest, hol]) ?_
      (try refine wk ?_)
      refine stbw (n := 32) hC8 rfl rfl (by simp [digest, hol]) (by simp) one_u8 (fun w9 hC9 hch9 hs9 => ?_)
      (try refine wk ?_)
      exact outc rfl rfl (hC9.row (n := 32) (o := 0) (ds := (digest s6).map u8v) (by simp [digest, List.take_of_length_le, hol])) (by simp [digest, hol]) ⟨rfl, hc8.own hch9 (by omega)⟩

theorem rbytes_any (q : UInt8) (v : Value) (ls : List (List UInt8)) (w : World) (hR : (Ty.sl (Ty.enc eU8)).Rd [] w v ls) (hT : 1 + ls.flatten.length ≤ 140737488355328) :
    Calls Tryz.prog 185 #[u8v q, v] w (Ret fun u w' => Own eU8 w' w.heap.size 5 u (q :: ls.flatten) ∧ Ch [] w w') := by
  refine enter [u8v q, v, undef, undef, undef, undef, undef, undef, undef, undef, undef, undef, undef, undef, undef, undef, undef, undef, undef, undef, undef] Tryz.func185 rfl rfl ?_
  (try refine wk ?_)
  refine wl_buildSlice (vs := [u8v q]) rfl rfl (by intro u hu; simp at hu; subst hu; rfl) (by decide) (fun w1 d hd => ?_)
  have hO1 : Own eU8 w1 w.heap.size 5 _ [q] := Own.of_new (en := eU8) hd rfl (Nat.le_refl _) (by simp) rfl
  (try refine wk ?_)
  obtain ⟨A, cap, rfl⟩ := hR.form
  have hle := hR.le
  (try refine wk ?_)
  
  refine c_loop (fun k l w' => ∃ (u : Value) (i : Nat), (∃ jj : Nat → Value, l = [jj 0, jj 1, jj 2, jj 3, jj 4, u, jj 6, jj 7, jj 8, jj 9, .slice A ls.length cap, .int .i64 (ls.length : Int), .int .i64 (i : Int), jj 13, jj 14, jj 15, jj 16, jj 17, jj 18, jj 19, jj 20]) ∧ i + k = ls.length ∧ Own eU8 w' w.heap.size 5 u (q :: (ls.take i).flatten) ∧ Ch [] w w') ls.length
    ⟨_, 0, exj rfl, by omega, hO1, hd.ch⟩ ?_
  rintro k l w2 ⟨u, i, ⟨jj, rfl⟩, hik, hO2, hc2⟩
  (try refine wk ?_)
  refine c_cond rfl (fun h => ?_) (fun h => ?_)
  · (try refine wk ?_)
    (try ((with_reducible apply is_gd); first | refine gt ?_ | refine gf ?_ | refine gu ?_)); refine ix (hR.ch hc2) (fun b o x hx hA => ?_)
    (try refine wk ?_)
    refine wl_load_one rfl hA rfl (fun vx hvx => ?_)
    obtain ⟨vx', hvx', hRx⟩ := hvx
    injection hvx' with hvx' _
    subst hvx'
    rw [Int.toNat_natCast] at hx
    have hxi : (ls.take (i + 1)).flatten = (ls.take i).flatten ++ x := by
      rw [List.take_add_one, hx]
      simp
    have hlen : (ls.take (i + 1)).flatten.length ≤ ls.flatten.length := by
      conv => rhs; rw [← List.take_append_drop (i + 1) ls, List.flatten_append, List.length_append]
      omega
    rw [hxi, List.length_append] at hlen
    (try refine wk ?_)
    refine apb (v := u) rfl rfl hO2 hc2.size rfl hRx (by rw [List.length_cons]; omega) (by rw [List.length_cons]; omega) (fun v' w3 hO3 hc3 hat => ?_)
    (try refine wk ?_)
    refine x_goes (k - 1) rfl (by omega) ⟨v', i + 1, exj rfl, by omega, ?_, ?_⟩
    · rw [hxi]
      simpa using hO3
    · refine hc2.trans hc3 (by simp) (fun x hx hm => ?_)
      have := (hO2.lt (k := x) (by simpa using hm)).1
      omega
  · obtain rfl : k = 0 := by omega
    obtain rfl : i = ls.length := by omega
    (try refine wk ?_)
    refine out1 rfl ⟨?_, hc2⟩
    rw [List.take_length] at hO2
    exact hO2
theorem rof_any (q : UInt8) (v : Value) (ls : List (List UInt8)) (w : World) (hR : (Ty.sl (Ty.enc eU8)).Rd [] w v ls) (hT : 1 + ls.flatten.length ≤ 140737488355200) :
    Calls Tryz.prog 146 #[u8v q, v] w (Ret fun u w' => u = hv (shaOf (q :: ls.flatten)) ∧ Ch [] w w') := by
  refine enter [u8v q, v, undef, undef, undef, undef, undef, undef, undef] Tryz.func146 rfl rfl ?_
  (try refine wk ?_)
  refine wl_alloc (fun w1 c hc => ?_)
  have hC1 : Blk w1 c ((List.replicate 32 (0 : UInt8)).map u8v) 28 := hc.blk
  (try refine wk ?_)
  (try ((with_reducible apply is_gd); first | refine gt ?_ | refine gf ?_ | refine gu ?_)); refine ca (rbytes_any q v ls w1 (hR.ch hc.ch) (by omega)) ?_
  rintro u w2 ⟨hO2, hc2⟩
  (try refine wk ?_)
  (try ((with_reducible apply is_gd); first | refine gt ?_ | refine gf ?_ | refine gu ?_)); refine ca (rsum_any u _ w2 (hO2.rd (by simp) (by rw [List.length_cons]; omega)) (by rw [List.length_cons]; omega)) ?_
  rintro _ w3 ⟨rfl, hc3⟩
  have hls := shaOf_len (q :: ls.flatten)
  have hC3 := (hC1.ch hc2 (by simp)).ch hc3 (by simp)
  (try refine wk ?_)
  refine stbw (n := 32) hC3 rfl rfl (hv_len hls) (by simp) one_u8 (fun w7 hC7 hch7 hs7 => ?_)
  (try refine wk ?_)
  exact outc rfl rfl (hC7.row (n := 32) (o := 0) (ds := (shaOf (q :: ls.flatten)).map u8v) (by simp [List.take_of_length_le, hls])) (by simp [hls]) ⟨rfl, ((hc.ch.then hc2).then hc3).own hch7 (by rw [hc.at_]; exact Nat.le_refl _)⟩
end Go.Proofs.YtoimhmphhffelaaGreatDoor

/- Words of 32 bits and bytes: what the operations on them come to.
   More of memory: appends of byte rows that are read, structs of parts.
   Rows of rows: copies, made slices, stores of elements.
   Arrays of bytes compared.
   Regions that draw their order, walked in an order of one's own choice: steady operations first, the others by whatever may come up; what a writer has brought about is kept (F).
   Regions that draw their order, with several writers: each operation of the list z comes up alone. -/
import Derived.Test.YtoimhmphhffelaaDoorQQueryBack02
import Derived.Laws.MakeOwn
import Derived.Scope
import Derived.ChangeKeysEq
import Derived.Laws.StructEq
set_option linter.unusedVariables false
set_option linter.unusedSimpArgs false
namespace Go.Proofs.E
open Go Go.RowKit

def v32 (x : UInt32) : Value := .int .u32 (x.toNat : Int)
/-- Turned to the right by c. -/
def rotr (x : UInt32) (c : Nat) : UInt32 := (x >>> UInt32.ofNat c) ||| (x <<< UInt32.ofNat (32 - c))
theorem wrap32 (n : Nat) : IntKind.u32.wrap (n : Int) = ((n % 4294967296 : Nat) : Int) := by
  simp [IntKind.wrap, IntKind.signed, IntKind.bits]
theorem lt32 (x : UInt32) : x.toNat < 4294967296 := x.toNat_lt
section
variable {P : Program} {l : List Value} {w : World} {T : TypeId} {x y : Operand} {t u : TypeId} {a b : UInt32}
theorem r_add32 [hU : Und P t (.int .u32)] (hx : ev l x = v32 a) (hy : ev l y = v32 b) : (exec (ev l) (.binOp .add t x y u) T).run P w = .ok (.value (v32 (a + b))) w := by
  refine (r_add hx hy).trans ?_
  congr 3
theorem bv32 (a : UInt32) : BitVec.ofInt IntKind.u32.bits (a.toNat : Int) = a.toBitVec := by
  rw [BitVec.ofInt_natCast]
  apply BitVec.eq_of_toNat_eq
  show (BitVec.ofNat 32 a.toNat).toNat = a.toNat
  rw [BitVec.toNat_ofNat, Nat.mod_eq_of_lt (lt32 a)]
theorem r_xor32 [hU : Und P t (.int .u32)] (hx : ev l x = v32 a) (hy : ev l y = v32 b) : (exec (ev l) (.binOp .xor t x y u) T).run P w = .ok (.value (v32 (a ^^^ b))) w := by
  refine (r_xor hx hy).trans ?_
  congr 3
  rw [bv32, bv32, wrap32]
  show (((a ^^^ b).toNat % 4294967296 : Nat) : Int) = _
  rw [Nat.mod_eq_of_lt (lt32 _)]
theorem r_and32 [hU : Und P t (.int .u32)] (hx : ev l x = v32 a) (hy : ev l y = v32 b) : (exec (ev l) (.binOp .and t x y u) T).run P w = .ok (.value (v32 (a &&& b))) w := by
  refine (r_and hx hy).trans ?_
  congr 3
  rw [bv32, bv32, wrap32]
  show (((a &&& b).toNat % 4294967296 : Nat) : Int) = _
  rw [Nat.mod_eq_of_lt (lt32 _)]
theorem r_or32 [hU : Und P t (.int .u32)] (hx : ev l x = v32 a) (hy : ev l y = v32 b) : (exec (ev l) (.binOp .or t x y u) T).run P w = .ok (.value (v32 (a ||| b))) w := by
  refine (r_or hx hy).trans ?_
  congr 3
  rw [bv32, bv32, wrap32]
  show (((a ||| b).toNat % 4294967296 : Nat) : Int) = _
  rw [Nat.mod_eq_of_lt (lt32 _)]
theorem r_compl32 [hU : Und P t (.int .u32)] (hx : ev l x = v32 a) : (exec (ev l) (.unOp .xor t x) T).run P w = .ok (.value (v32 (~~~a))) w := by
  refine (r_compl hx).trans ?_
  congr 3
  rw [bv32]
  have h : BitVec.ofInt IntKind.u32.bits (if IntKind.u32.signed = true then -1 else IntKind.u32.max) = BitVec.allOnes IntKind.u32.bits := by
    show BitVec.ofInt 32 4294967295 = BitVec.allOnes 32
    rfl
  rw [h, wrap32]
  have h2 : (BitVec.allOnes 32 ^^^ a.toBitVec) = (~~~ a).toBitVec := by
    rw [BitVec.xor_comm]; exact BitVec.xor_allOnes
  show (((BitVec.allOnes 32 ^^^ a.toBitVec : BitVec 32).toNat % 4294967296 : Nat) : Int) = ((~~~a).toNat : Int)
  rw [h2]
  show (((~~~a).toNat % 4294967296 : Nat) : Int) = _
  rw [Nat.mod_eq_of_lt (lt32 _)]
theorem r_shl32 {k : IntKind} {n : Int} {c : Nat} [hU : Und P t (.int .u32)] (hx : ev l x = v32 a) (hy : ev l y = .int k n) (hn : n = (c : Int)) (hc : c < 32) : (exec (ev l) (.binOp .shl t x y u) T).run P w = .ok (.value (v32 (a <<< UInt32.ofNat c))) w := by
  subst hn
  refine (r_shl hx hy (by omega)).trans ?_
  congr 3
  rw [Int.toNat_natCast, Nat.min_eq_left (show c ≤ IntKind.u32.bits by simp only [IntKind.bits]; omega)]
  have e : ((a.toNat : Int) * 2 ^ c) = ((a.toNat * 2 ^ c : Nat) : Int) := by simp
  rw [e, wrap32, UInt32.toNat_shiftLeft, Nat.shiftLeft_eq, UInt32.toNat_ofNat_of_lt' (by simp [UInt32.size]; omega), Nat.mod_eq_of_lt hc]
theorem r_shr32 {k : IntKind} {n : Int} {c : Nat} [hU : Und P t (.int .u32)] (hx : ev l x = v32 a) (hy : ev l y = .int k n) (hn : n = (c : Int)) (hc : c < 32) : (exec (ev l) (.binOp .shr t x y u) T).run P w = .ok (.value (v32 (a >>> UInt32.ofNat c))) w := by
  subst hn
  refine (r_shr hx hy (by omega)).trans ?_
  congr 3
  rw [Int.toNat_natCast, Nat.min_eq_left (show c ≤ IntKind.u32.bits by simp only [IntKind.bits]; omega)]
  rw [Int.fdiv_eq_ediv_of_nonneg _ (by exact_mod_cast Nat.zero_le (2 ^ c)), UInt32.toNat_shiftRight, Nat.shiftRight_eq_div_pow, UInt32.toNat_ofNat_of_lt' (by simp [UInt32.size]; omega), Nat.mod_eq_of_lt hc]
  simp
theorem r_c8to32 {q : UInt8} [hs : Und P t (.int .u8)] [ht : Und P u (.int .u32)] (hx : ev l x = u8v q) : (exec (ev l) (.convert t u x) T).run P w = .ok (.value (v32 q.toUInt32)) w := by
  refine (r_conv hx).trans ?_
  congr 3
  rw [wrap32, UInt8.toNat_toUInt32]
  have := q.toNat_lt
  rw [Nat.mod_eq_of_lt (by omega)]
theorem r_c32to8 [hs : Und P t (.int .u32)] [ht : Und P u (.int .u8)] (hx : ev l x = v32 a) : (exec (ev l) (.convert t u x) T).run P w = .ok (.value (u8v a.toUInt8)) w := by
  refine (r_conv hx).trans ?_
  congr 3
end

/-! ### Steps over words of 32 bits, arrays, fields -/
section
variable {P : Program} {ops : Array Oper} {Q : Exit → Act → World → Prop} {rest : List Oper} {l : List Value} {w : World} {op : Op} {T : TypeId} {pos : String} {after : Array Edge}
theorem su {d : Nat} {v : Value} {l' : List Value} (h : wpList P ops Q rest (fr l') w)
    (hr : (exec (ev l) op T).run P w = .ok (.value v) w := by
      first
      | (with_reducible apply Go.Proofs.E.r_move)
      | (with_reducible apply Go.Proofs.E.r_assign)
      | ((with_reducible apply Go.Proofs.E.r_add32 ?hx ?hy); (case hx => exact rfl); (case hy => exact rfl))
      | ((with_reducible apply Go.Proofs.E.r_xor32 ?hx ?hy); (case hx => exact rfl); (case hy => exact rfl))
      | ((with_reducible apply Go.Proofs.E.r_and32 ?hx ?hy); (case hx => exact rfl); (case hy => exact rfl))
      | ((with_reducible apply Go.Proofs.E.r_or32 ?hx ?hy); (case hx => exact rfl); (case hy => exact rfl))
      | ((with_reducible apply Go.Proofs.E.r_compl32 ?hx); (case hx => exact rfl))
      | ((with_reducible apply Go.Proofs.E.r_shl32 ?hx ?hy ?hn ?hc); (case hx => exact rfl); (case hy => exact rfl); (case hn => first | exact rfl | exact (Int.toNat_of_nonneg (by omega)).symm); (case hc => first | decide | omega))
      | ((with_reducible apply Go.Proofs.E.r_shr32 ?hx ?hy ?hn ?hc); (case hx => exact rfl); (case hy => exact rfl); (case hn => first | exact rfl | exact (Int.toNat_of_nonneg (by omega)).symm); (case hc => first | decide | omega))
      | ((with_reducible apply Go.Proofs.E.r_c8to32 ?hx); (case hx => exact rfl))
      | ((with_reducible apply Go.Proofs.E.r_c32to8 ?hx); (case hx => exact rfl))
      | ((with_reducible apply Go.Proofs.E.r_indexAddr_arr ?hx ?hy ?h0 ?h1); (case hx => exact rfl); (case hy => exact rfl); (case h0 => first | decide | omega); (case h1 => first | decide | omega))
      | ((with_reducible apply Go.Proofs.E.r_fieldAddr ?hx ?hn); (case hx => exact rfl); (case hn => decide))
      | ((with_reducible apply Go.Proofs.E.r_to (Go.Proofs.E.r_add ?hx ?hy) ?hw); (case hx => exact rfl); (case hy => exact rfl); (case hw => exact Go.Proofs.E.wrap_rng (by exact rfl) (by omega) (by omega)))
      | ((with_reducible apply Go.Proofs.E.r_add ?hx ?hy); (case hx => exact rfl); (case hy => exact rfl))
      | ((with_reducible apply Go.Proofs.E.r_to (Go.Proofs.E.r_sub ?hx ?hy) ?hw); (case hx => exact rfl); (case hy => exact rfl); (case hw => exact Go.Proofs.E.wrap_rng (by exact rfl) (by omega) (by omega)))
      | ((with_reducible apply Go.Proofs.E.r_sub ?hx ?hy); (case hx => exact rfl); (case hy => exact rfl))
      | ((with_reducible apply Go.Proofs.E.r_to (Go.Proofs.E.r_mul ?hx ?hy) ?hw); (case hx => exact rfl); (case hy => exact rfl); (case hw => exact Go.Proofs.E.wrap_rng (by exact rfl) (by omega) (by omega)))
      | ((with_reducible apply Go.Proofs.E.r_mul ?hx ?hy); (case hx => exact rfl); (case hy => exact rfl))
      | ((with_reducible apply Go.Proofs.E.r_lss ?hx ?hy); (case hx => exact rfl); (case hy => exact rfl))
      | ((with_reducible apply Go.Proofs.E.r_leq ?hx ?hy); (case hx => exact rfl); (case hy => exact rfl))
      | ((with_reducible apply Go.Proofs.E.r_gtr ?hx ?hy); (case hx => exact rfl); (case hy => exact rfl))
      | ((with_reducible apply Go.Proofs.E.r_geq ?hx ?hy); (case hx => exact rfl); (case hy => exact rfl))
      | ((with_reducible apply Go.Proofs.E.r_eql ?hx ?hy); (case hx => exact rfl); (case hy => exact rfl))
      | ((with_reducible apply Go.Proofs.E.r_neq ?hx ?hy); (case hx => exact rfl); (case hy => exact rfl))
      | ((with_reducible apply Go.Proofs.E.r_not ?hx); (case hx => exact rfl))
      | ((with_reducible apply Go.Proofs.E.r_len ?hx); (case hx => exact rfl))
      | ((with_reducible apply Go.Proofs.E.r_lens ?hx); (case hx => exact rfl))
      | ((with_reducible apply Go.Proofs.E.r_nilCheck ?hx); (case hx => exact rfl))
      | ((with_reducible apply Go.Proofs.E.r_extract ?hx ?hy); (case hx => exact rfl); (case hy => exact rfl))
      | ((with_reducible apply Go.Proofs.E.r_to (Go.Proofs.E.r_conv ?hx) ?hw); (case hx => exact rfl); (case hw => exact Go.Proofs.E.wrap_rng (by exact rfl) (by omega) (by omega)))
      | ((with_reducible apply Go.Proofs.E.r_conv ?hx); (case hx => exact rfl))
      | ((with_reducible apply Go.Proofs.E.r_pick_t ?hx ?hb); (case hx => exact rfl); (case hb => first | exact rfl | exact decide_eq_true (by omega) | exact decide_eq_false (by omega) | assumption | exact decide_eq_true (by assumption) | exact decide_eq_false (by assumption)))
      | ((with_reducible apply Go.Proofs.E.r_pick_f ?hx ?hb); (case hx => exact rfl); (case hb => first | exact rfl | exact decide_eq_true (by omega) | exact decide_eq_false (by omega) | assumption | exact decide_eq_true (by assumption) | exact decide_eq_false (by assumption)))
      | ((with_reducible apply Go.Proofs.E.r_neg ?hx); (case hx => exact rfl))
      | ((with_reducible apply Go.Proofs.E.r_shl ?hx ?hy ?h0); (case hx => exact rfl); (case hy => exact rfl); (case h0 => omega))
      | ((with_reducible apply Go.Proofs.E.r_shr ?hx ?hy ?h0); (case hx => exact rfl); (case hy => exact rfl); (case h0 => omega))
      | ((with_reducible apply Go.Proofs.E.r_quo ?hx ?hy ?h0); (case hx => exact rfl); (case hy => exact rfl); (case h0 => omega))
      | ((with_reducible apply Go.Proofs.E.r_rem ?hx ?hy ?h0); (case hx => exact rfl); (case hy => exact rfl); (case h0 => omega)))
    (hl : l.set d v = l' := by first | (dsimp only [List.set, Go.Proofs.E.set1, Go.Proofs.E.ev, Go.Proofs.E.nth]; done) | exact rfl) :
    wpList P ops Q ({ dst := some d, op := op, type := T, pos := pos, after := after, guard := none } :: rest) (fr l) w := by subst hl; exact wl_val hr h
variable {S : List Nat} {k zz : Nat} {listed : Array Bool} {d : Option Nat}
theorem sgu {v : Value} {l' : List Value} (h : wpLexG P ops (Ch S) Q zz rest (k + 1) (listed.setIfInBounds k true) (fr l') w)
    (hr : ∀ w1 : World, (exec (ev l) op T).run P w1 = .ok (.value v) w1 := by
      intro _
      first
      | (with_reducible apply Go.Proofs.E.r_move)
      | (with_reducible apply Go.Proofs.E.r_assign)
      | ((with_reducible apply Go.Proofs.E.r_add32 ?hx ?hy); (case hx => exact rfl); (case hy => exact rfl))
      | ((with_reducible apply Go.Proofs.E.r_xor32 ?hx ?hy); (case hx => exact rfl); (case hy => exact rfl))
      | ((with_reducible apply Go.Proofs.E.r_and32 ?hx ?hy); (case hx => exact rfl); (case hy => exact rfl))
      | ((with_reducible apply Go.Proofs.E.r_or32 ?hx ?hy); (case hx => exact rfl); (case hy => exact rfl))
      | ((with_reducible apply Go.Proofs.E.r_compl32 ?hx); (case hx => exact rfl))
      | ((with_reducible apply Go.Proofs.E.r_shl32 ?hx ?hy ?hn ?hc); (case hx => exact rfl); (case hy => exact rfl); (case hn => first | exact rfl | exact (Int.toNat_of_nonneg (by omega)).symm); (case hc => first | decide | omega))
      | ((with_reducible apply Go.Proofs.E.r_shr32 ?hx ?hy ?hn ?hc); (case hx => exact rfl); (case hy => exact rfl); (case hn => first | exact rfl | exact (Int.toNat_of_nonneg (by omega)).symm); (case hc => first | decide | omega))
      | ((with_reducible apply Go.Proofs.E.r_c8to32 ?hx); (case hx => exact rfl))
      | ((with_reducible apply Go.Proofs.E.r_c32to8 ?hx); (case hx => exact rfl))
      | ((with_reducible apply Go.Proofs.E.r_indexAddr_arr ?hx ?hy ?h0 ?h1); (case hx => exact rfl); (case hy => exact rfl); (case h0 => first | decide | omega); (case h1 => first | decide | omega))
      | ((with_reducible apply Go.Proofs.E.r_fieldAddr ?hx ?hn); (case hx => exact rfl); (case hn => decide))
      | ((with_reducible apply Go.Proofs.E.r_to (Go.Proofs.E.r_add ?hx ?hy) ?hw); (case hx => exact rfl); (case hy => exact rfl); (case hw => exact Go.Proofs.E.wrap_rng (by exact rfl) (by omega) (by omega)))
      | ((with_reducible apply Go.Proofs.E.r_add ?hx ?hy); (case hx => exact rfl); (case hy => exact rfl))
      | ((with_reducible apply Go.Proofs.E.r_to (Go.Proofs.E.r_sub ?hx ?hy) ?hw); (case hx => exact rfl); (case hy => exact rfl); (case hw => exact Go.Proofs.E.wrap_rng (by exact rfl) (by omega) (by omega)))
      | ((with_reducible apply Go.Proofs.E.r_sub ?hx ?hy); (case hx => exact rfl); (case hy => exact rfl))
      | ((with_reducible apply Go.Proofs.E.r_to (Go.Proofs.E.r_mul ?hx ?hy) ?hw); (case hx => exact rfl); (case hy => exact rfl); (case hw => exact Go.Proofs.E.wrap_rng (by exact rfl) (by omega) (by omega)))
      | ((with_reducible apply Go.Proofs.E.r_mul ?hx ?hy); (case hx => exact rfl); (case hy => exact rfl))
      | ((with_reducible apply Go.Proofs.E.r_lss ?hx ?hy); (case hx => exact rfl); (case hy => exact rfl))
      | ((with_reducible apply Go.Proofs.E.r_leq ?hx ?hy); (case hx => exact rfl); (case hy => exact rfl))
      | ((with_reducible apply Go.Proofs.E.r_gtr ?hx ?hy); (case hx => exact rfl); (case hy => exact rfl))
      | ((with_reducible apply Go.Proofs.E.r_geq ?hx ?hy); (case hx => exact rfl); (case hy => exact rfl))
      | ((with_reducible apply Go.Proofs.E.r_eql ?hx ?hy); (case hx => exact rfl); (case hy => exact rfl))
      | ((with_reducible apply Go.Proofs.E.r_neq ?hx ?hy); (case hx => exact rfl); (case hy => exact rfl))
      | ((with_reducible apply Go.Proofs.E.r_not ?hx); (case hx => exact rfl))
      | ((with_reducible apply Go.Proofs.E.r_len ?hx); (case hx => exact rfl))
      | ((with_reducible apply Go.Proofs.E.r_lens ?hx); (case hx => exact rfl))
      | ((with_reducible apply Go.Proofs.E.r_nilCheck ?hx); (case hx => exact rfl))
      | ((with_reducible apply Go.Proofs.E.r_extract ?hx ?hy); (case hx => exact rfl); (case hy => exact rfl))
      | ((with_reducible apply Go.Proofs.E.r_to (Go.Proofs.E.r_conv ?hx) ?hw); (case hx => exact rfl); (case hw => exact Go.Proofs.E.wrap_rng (by exact rfl) (by omega) (by omega)))
      | ((with_reducible apply Go.Proofs.E.r_conv ?hx); (case hx => exact rfl))
      | ((with_reducible apply Go.Proofs.E.r_pick_t ?hx ?hb); (case hx => exact rfl); (case hb => first | exact rfl | exact decide_eq_true (by omega) | exact decide_eq_false (by omega) | assumption | exact decide_eq_true (by assumption) | exact decide_eq_false (by assumption)))
      | ((with_reducible apply Go.Proofs.E.r_pick_f ?hx ?hb); (case hx => exact rfl); (case hb => first | exact rfl | exact decide_eq_true (by omega) | exact decide_eq_false (by omega) | assumption | exact decide_eq_true (by assumption) | exact decide_eq_false (by assumption)))
      | ((with_reducible apply Go.Proofs.E.r_neg ?hx); (case hx => exact rfl))
      | ((with_reducible apply Go.Proofs.E.r_shl ?hx ?hy ?h0); (case hx => exact rfl); (case hy => exact rfl); (case h0 => omega))
      | ((with_reducible apply Go.Proofs.E.r_shr ?hx ?hy ?h0); (case hx => exact rfl); (case hy => exact rfl); (case h0 => omega))
      | ((with_reducible apply Go.Proofs.E.r_quo ?hx ?hy ?h0); (case hx => exact rfl); (case hy => exact rfl); (case h0 => omega))
      | ((with_reducible apply Go.Proofs.E.r_rem ?hx ?hy ?h0); (case hx => exact rfl); (case hy => exact rfl); (case h0 => omega)))
    (hl : set1 l d v = l' := by first | (dsimp only [List.set, Go.Proofs.E.set1, Go.Proofs.E.ev, Go.Proofs.E.nth]; done) | exact rfl) :
    wpLexG P ops (Ch S) Q zz ({ dst := d, op := op, type := T, pos := pos, after := after, guard := none } :: rest) k listed (fr l) w := wg_valn (fun w1 _ => hr w1) hl h
/-! ### Blocks of one's own -/
theorem Ch.own {w w1 w2 : World} {b : Nat} (h : Ch [] w w1) (k : Ch [b] w1 w2) (hb : w.heap.size ≤ b) : Ch [] w w2 := h.trans k (by simp) (fun x hx hm => by simp at hm; omega)
theorem Ch.add {S : List Nat} {w w1 w2 : World} (h : Ch S w w1) (k : Ch [] w1 w2) : Ch S w w2 := h.trans k (fun _ _ h => h) (fun x hx hm => by simp at hm)
theorem Ch.some {S : List Nat} {w w1 : World} (h : Ch [] w w1) : Ch S w w1 := h.mono (fun x hx hm => by simp at hm)
/-- A load of one cell. -/
theorem ldb {d : Nat} {x : Operand} {E E' : TypeId} {b o : Nat} {cs : List Value} {v : Value} [hr : One P E] (hB : Blk w b cs E') (hx : ev l x = .pointer (some ⟨b, o, none⟩)) (hv : cs[o]? = some v)
    (h : wpList P ops Q rest (fr (l.set d v)) w) : wpList P ops Q ({ dst := some d, op := .load E x, type := T, pos := pos, after := after, guard := none } :: rest) (fr l) w :=
  wl_val (r_load_one hx (hB.cell hv)) h
theorem ldbg {d : Nat} {x : Operand} {E E' : TypeId} {b o : Nat} {cs : List Value} {v : Value} [hr : One P E] (hB : Blk w b cs E') (hS : b ∉ S) (hx : ev l x = .pointer (some ⟨b, o, none⟩)) (hv : cs[o]? = some v)
    (h : wpLexG P ops (Ch S) Q zz rest (k + 1) (listed.setIfInBounds k true) (fr (l.set d v)) w) : wpLexG P ops (Ch S) Q zz ({ dst := some d, op := .load E x, type := T, pos := pos, after := after, guard := none } :: rest) k listed (fr l) w :=
  wg_val (fun w1 hG => r_load_one hx ((hB.ch hG hS).cell hv)) h
/-- A load of a whole row. -/
theorem Blk.row {w : World} {b o n : Nat} {cs ds : List Value} {E : TypeId} (hB : Blk w b cs E) (hd : (cs.drop o).take n = ds) : w.rangeAt b o ds := hd ▸ hB.range o n
theorem ldbr {d : Nat} {x : Operand} {E E' : TypeId} {b o n by_ : Nat} {cs ds : List Value} {z : Value} [hr : Row P E] [hi : Inf P E z n by_] (hB : Blk w b cs E') (hx : ev l x = .pointer (some ⟨b, o, none⟩)) (hd : (cs.drop o).take n = ds) (hn : ds.length = n)
    (h : wpList P ops Q rest (fr (l.set d (.agg ds.toArray))) w) : wpList P ops Q ({ dst := some d, op := .load E x, type := T, pos := pos, after := after, guard := none } :: rest) (fr l) w :=
  wl_val (r_load_row hx (hB.row hd) hn) h
theorem ldbrg {d : Nat} {x : Operand} {E E' : TypeId} {b o n by_ : Nat} {cs ds : List Value} {z : Value} [hr : Row P E] [hi : Inf P E z n by_] (hB : Blk w b cs E') (hS : b ∉ S) (hx : ev l x = .pointer (some ⟨b, o, none⟩)) (hd : (cs.drop o).take n = ds) (hn : ds.length = n)
    (h : wpLexG P ops (Ch S) Q zz rest (k + 1) (listed.setIfInBounds k true) (fr (l.set d (.agg ds.toArray))) w) : wpLexG P ops (Ch S) Q zz ({ dst := some d, op := .load E x, type := T, pos := pos, after := after, guard := none } :: rest) k listed (fr l) w :=
  wg_val (fun w1 hG => r_load_row hx ((hB.ch hG hS).row hd) hn) h
theorem spl_set {cs : List Value} {o : Nat} {v : Value} (h : o < cs.length) : spl cs o [v] = cs.set o v := by
  unfold spl
  rw [List.set_eq_take_append_cons_drop, if_pos h]
  simp
theorem spl_whole {cs vs : List Value} (h : vs.length = cs.length) : spl cs 0 vs = vs := by
  unfold spl
  simp [h]
/-- A store of one cell. -/
theorem stb {x y : Operand} {E t : TypeId} {b o by_ : Nat} {cs : List Value} {v z : Value} [hi : Inf P t z 1 by_] (hB : Blk w b cs E) (hx : ev l x = .pointer (some ⟨b, o, none⟩)) (hy : ev l y = v) (hv : v.cells = #[v]) (h1 : v.oneCell' = true) (hf : o < cs.length)
    (h : ∀ w', Blk w' b (cs.set o v) E → Ch [b] w w' → w'.heap.size = w.heap.size → wpList P ops Q rest (fr l) w') :
    wpList P ops Q ({ dst := none, op := .store t x y, type := T, pos := pos, after := after, guard := none } :: rest) (fr l) w := by
  refine wl_store hx hy hB (by omega) (by rw [hv]; rfl) (by rw [hv]; intro u hu; simp at hu; subst hu; exact h1) fun w' hb hc hs => h w' ?_ hc hs
  rw [hv] at hb
  rwa [← spl_set hf]
/-- A store of the whole row. -/
theorem stbw {x y : Operand} {E t : TypeId} {b n by_ : Nat} {cs vs : List Value} {z : Value} [hi : Inf P t z n by_] (hB : Blk w b cs E) (hx : ev l x = .pointer (some ⟨b, 0, none⟩)) (hy : ev l y = .agg vs.toArray) (hl : vs.length = n) (hf : cs.length = n) (h1 : ∀ u ∈ vs, u.oneCell' = true)
    (h : ∀ w', Blk w' b vs E → Ch [b] w w' → w'.heap.size = w.heap.size → wpList P ops Q rest (fr l) w') :
    wpList P ops Q ({ dst := none, op := .store t x y, type := T, pos := pos, after := after, guard := none } :: rest) (fr l) w := by
  refine wl_store hx hy hB (by omega) (by simpa [Value.cells] using hl) (by simpa [Value.cells] using h1) fun w' hb hc hs => h w' ?_ hc hs
  have e : (Value.agg vs.toArray).cells.toList = vs := by simp [Value.cells]
  rw [e, spl_whole (by omega)] at hb
  exact hb
/-- The last operation of a drawn region. -/
theorem lastg {o : Oper} (h0 : ops[k]? = some o) (hone : Region.ready .any ops listed = [k])
    (h : ∀ w1, Ch S w w1 → wpList P ops (Exit.then (fun a' w' => (Ch S w1 w' ∨ k = zz) ∧ wpLexG P ops (Ch S) Q zz rest (k + 1) (listed.setIfInBounds k true) a' w') Q) [o] (fr l) w1) :
    wpLexG P ops (Ch S) Q zz (o :: rest) k listed (fr l) w := wg_one h0 hone h
theorem x_mid {k' k2 : Nat} {w1 w' : World} {l' : List Value} {ls : Array Bool} (hl : l = l') (hc : Ch S w1 w') (h : wpLexG P ops (Ch S) Q zz rest k' ls (fr l') w') : wpList P ops (Exit.then (fun a' w' => (Ch S w1 w' ∨ k = k2) ∧ wpLexG P ops (Ch S) Q zz rest k' ls a' w') Q) [] (fr l) w' := by
  subst hl
  exact wl_nil (x_then ⟨.inl hc, h⟩)
/-- The operation that waits for all others has come up; some wait for it. -/
theorem x_late {k' k2 : Nat} {w1 w' : World} {l' : List Value} {ls : Array Bool} (hl : l = l') (hk : k = k2) (h : wpLexG P ops (Ch S) Q zz rest k' ls (fr l') w') : wpList P ops (Exit.then (fun a' w' => (Ch S w1 w' ∨ k = k2) ∧ wpLexG P ops (Ch S) Q zz rest k' ls a' w') Q) [] (fr l) w' := by
  subst hl
  exact wl_nil (x_then ⟨.inr hk, h⟩)
theorem r_cut_arr0 {x : Operand} {t e : TypeId} {z : Value} {n m by_ b o : Nat} [hu : Und P t (.array n e)] [hi : Inf P e z m by_] (hx : ev l x = .pointer (some ⟨b, o, none⟩)) :
    (exec (ev l) (.slice t x none none none) T).run P w = .ok (.value (.slice (some ⟨b, o, none⟩) n n)) w := by
  have hs := run_size (P := P) (w := w) (hi := hi)
  have hb := bnd_none (P := P) (w := w) (n := n) (c := n) (b := false)
  by_cases hn : n = 0
  · subst hn
    simp [exec, execOp, Instr.sliceAt, Instr.sureAddr, run_underlying hu.out, hx, hb, hs]
  · simp [exec, execOp, Instr.sliceAt, Instr.sureAddr, run_underlying hu.out, hx, hb, hs, hn, Addr.add]
theorem one_u8 {bs : List UInt8} : ∀ v ∈ bs.map u8v, v.oneCell' = true := by intro u hu; obtain ⟨x, _, rfl⟩ := List.mem_map.1 hu; rfl
end
end Go.Proofs.E
set_option linter.unusedVariables false
set_option linter.unusedSimpArgs false
namespace Go.Proofs.E
open Go Go.RowKit
section
variable {P : Program} {ops : Array Oper} {Q : Exit → Act → World → Prop} {rest : List Oper} {l : List Value} {w : World} {op : Op} {T : TypeId} {pos : String} {after : Array Edge}
theorem Own.form {α : Type} {en : En α} {base : Nat} {E : TypeId} {v : Value} {xs : List α} (h : Own en w base E v xs) : ∃ A c, v = .slice A xs.length c ∧ xs.length ≤ c := by
  rcases h.2 with ⟨rfl, h0⟩ | ⟨g, cap, cur, rfl, hg, hh, hc1, hc2, hc3, hc4⟩
  · exact ⟨none, 0, by rw [h0], by omega⟩
  · exact ⟨_, cap, rfl, hc1⟩
/-- append(v, nothing...). -/
theorem wl_append0 {α : Type} {en : En α} {n by_ : Nat} {d : Nat} {x y : Operand} {t e : TypeId} {z : Value} [hu : Und P t (.slice e)] [hi : Inf P e z n by_]
    {base : Nat} {v : Value} {xs : List α} {A : Option Addr} {c : Nat} (hx : ev l x = v) (hO : Own en w base e v xs) (hy : ev l y = .slice A 0 c) (h : wpList P ops Q rest (fr (l.set d v)) w) :
    wpList P ops Q ({ dst := some d, op := .call { callee := .builtin .append, args := #[x, y], argTypes := #[t, t] }, type := T, pos := pos, after := after, guard := none } :: rest) (fr l) w := by
  obtain ⟨i, k1, k2, k3, k4⟩ := inf_parts hi
  obtain ⟨B, cap, rfl, hle⟩ := hO.form
  refine wl_val ?_ h
  have hl : ∀ (x : Addr), (loadCells x 0).run P w = .ok #[] w := fun x => by simpa using run_loadCells_list (P := P) w x [] (by simp)
  cases A <;> cases B <;> simp [exec, execOp, resolve, invoke, builtin, Builtin.append_, run_underlying hu.out, sizeOf, typeInfo, k1, Builtin.lenOf, Builtin.firstCells, hle, storeCells, hx, hy, hl]
end
/-- What a slice is, of a row of one's own. -/
theorem Own.of_new {α : Type} {en : En α} {w w' : World} {b n : Nat} {cs : List Value} {E : TypeId} {bs : List α} {base : Nat} (h : New w w' b cs E) (hc : cs = bs.flatMap en.f) (hb : base ≤ w.heap.size) (hl : bs.length ≤ 281474976710656) (hn : bs.length = n) : Own en w' base E (.slice (some ⟨b, 0, none⟩) n n) bs := by
  subst hc hn
  have hfl := flatMap_len en.hl bs
  exact ⟨hfl, .inr ⟨b, bs.length, _, rfl, by rw [h.at_]; exact hb, h.blk, Nat.le_refl _, by simp only [maxLen]; omega, by simpa using hfl, by rw [List.take_of_length_le (by simpa using Nat.le_of_eq hfl)]⟩⟩
section
variable {P : Program} {ops : Array Oper} {Q : Exit → Act → World → Prop} {rest : List Oper} {l : List Value} {w : World} {op : Op} {T : TypeId} {pos : String} {after : Array Edge} {S : List Nat} {k zz : Nat} {listed : Array Bool}
end
end Go.Proofs.E
set_option linter.unusedVariables false
set_option linter.unusedSimpArgs false
namespace Go.Proofs.E
open Go Go.RowKit
theorem range_flat {α : Type} {f : α → List Value} {n : Nat} (hf : ∀ x, (f x).length = n) {w : World} {b : Nat} : ∀ (xs : List α) (o : Nat), (∀ (i : Nat) x, xs[i]? = some x → w.rangeAt b (o + i * n) (f x)) → w.rangeAt b o (xs.flatMap f)
  | [], o, _ => fun j v hv => by simp at hv
  | x :: xs, o, h => fun j v hv => by
    rw [List.flatMap_cons] at hv
    rcases Nat.lt_or_ge j n with hj | hj
    · rw [List.getElem?_append_left (by rw [hf]; exact hj)] at hv
      have := h 0 x rfl j v hv
      simpa using this
    · rw [List.getElem?_append_right (by rw [hf]; exact hj), hf] at hv
      have := range_flat hf xs (o + n) (fun i y hy => by
        have := h (i + 1) y (by simpa using hy)
        rwa [show o + n + i * n = o + (i + 1) * n by rw [Nat.succ_mul]; omega]) (j - n) v hv
      rwa [show o + n + (j - n) = o + j by omega] at this
instance stp_ng {Q : Exit → Act → World → Prop} {a : Act} {w : World} : Stp (Exit.noGoto Q .normal a w) (Q .normal a w) := ⟨fun h => h⟩
instance stp_ng_ret {Q : Exit → Act → World → Prop} {a : Act} {w : World} : Stp (Exit.noGoto Q .ret a w) (Q .ret a w) := ⟨fun h => h⟩
instance stp_ng_exit {Q : Exit → Act → World → Prop} {a : Act} {w : World} {i : Nat} : Stp (Exit.noGoto Q (.exit i) a w) (Q (.exit i) a w) := ⟨fun h => h⟩
instance stp_scope {P : Program} {Q : Exit → Act → World → Prop} {a : Act} {w : World} {c : Code} : Stp ((Code.scope c).wp P Q a w) (c.wp P (Exit.noGoto Q) a w) := ⟨fun h => wp_scope_straight h⟩
/-- A row of elements that is read. -/
theorem rowE {α : Type} {en : En α} {w : World} {S : List Nat} {v : Value} {xs : List α} (h : (Ty.enc en).Rd S w v xs) (hne : xs ≠ []) : ∃ b o cap, v = .slice (some ⟨b, o, none⟩) xs.length cap ∧ b < w.heap.size ∧ b ∉ S ∧ w.rangeAt b o (xs.flatMap en.f) := by
  obtain ⟨_, A, cap, rfl, _, h2⟩ := h
  obtain ⟨b, o, rfl, hb, hS, hat⟩ := h2 hne
  refine ⟨b, o, cap, rfl, hb, hS, range_flat en.hl xs o fun i x hx => ?_⟩
  obtain ⟨_, _, cs, hcs, hr⟩ := hat i x hx
  have hcs' : cs = en.f x := hcs
  subst hcs'
  exact hr
section
variable {P : Program} {ops : Array Oper} {Q : Exit → Act → World → Prop} {rest : List Oper} {l : List Value} {w : World} {op : Op} {T : TypeId} {pos : String} {after : Array Edge}
end
end Go.Proofs.E
set_option linter.unusedVariables false
set_option linter.unusedSimpArgs false
namespace Go.Proofs.E
open Go Go.RowKit
section
variable {P : Program} {l : List Value} {w : World} {T : TypeId}
end
/-! ### Whole walks in one word -/
structure Hd (p : Prop) : Prop where
  out : p
end Go.Proofs.E
set_option linter.unusedVariables false
set_option linter.unusedSimpArgs false
namespace Go.Proofs.E
open Go Go.RowKit
/-- What may come of a world within a region: S's blocks alone turn; and what F says, once it holds, holds on. -/
structure Gr (S : List Nat) (F : Nat → World → Prop) (w w' : World) : Prop where
  ch : Ch S w w'
  fin : ∀ i, F i w → F i w'
theorem Gr.refl (S : List Nat) (F : Nat → World → Prop) (w : World) : Gr S F w w := ⟨Ch.refl S w, fun _ h => h⟩
theorem Gr.then {S : List Nat} {F : Nat → World → Prop} {a b c : World} (h : Gr S F a b) (k : Gr S F b c) : Gr S F a c := ⟨h.ch.then k.ch, fun i x => k.fin i (h.fin i x)⟩
/-- A fact that new blocks leave. -/
def Stab (F : Nat → World → Prop) : Prop := ∀ i a b, Ch [] a b → F i a → F i b
theorem Gr.new {S : List Nat} {F : Nat → World → Prop} (hF : Stab F) {w w' : World} (h : Ch [] w w') : Gr S F w w' := ⟨h.some, fun i => hF i _ _ h⟩
section
variable {P : Program} {ops : Array Oper} {S : List Nat} {F : Nat → World → Prop} {Q : Exit → Act → World → Prop} {z fuel : Nat} {listed : Array Bool} {a : Act} {l l' : List Value} {w : World}
  {op : Op} {T : TypeId} {pos : String} {after : Array Edge} {d : Option Nat}
/-- Where a walk stands: some operations have come up. -/
def WA (P : Program) (ops : Array Oper) (S : List Nat) (F : Nat → World → Prop) (Q : Exit → Act → World → Prop) (z fuel : Nat) (listed : Array Bool) (a : Act) (w : World) : Prop :=
  Region.noSelect ops = true → Late .any ops z → Dn .any ops listed → wpAnyG P .any ops (Gr S F) (NoP Q) z fuel listed a w
/-- A steady operation is taken first. -/
theorem wa_first {k : Nat} {o : Oper} {v : Value} (ho : ops[k]? = some o) (hr : (Region.ready .any ops listed).contains k = true) (hf : Region.free .any ops listed k = true) (hs : Steady P ops (Gr S F) w o v a)
    (h : WA P ops S F Q z fuel (listed.setIfInBounds k true) (a.put o.dst v) w) : WA P ops S F Q z (fuel + 1) listed a w := fun h1 h2 h3 =>
  have hr' : k ∈ Region.ready .any ops listed := by simpa using hr
  wpAnyG_first h2 (Gr.refl S F) (fun _ _ _ h k => h.then k) ho (Region.noSelect_spec h1) (fun c a w h => (h : False).elim) fuel listed a w (Region.free_spec ho hf) h3 hr' hs (h h1 h2 (h3.set hr'))
theorem onv {v : Value} (k : Nat) (ho : ops[k]? = some { dst := d, op := op, type := T, pos := pos, after := after, guard := none }) (hr : (Region.ready .any ops listed).contains k = true) (hf : Region.free .any ops listed k = true)
    (hs : ∀ w1, Gr S F w w1 → (exec (ev l) op T).run P w1 = .ok (.value v) w1) (hl : set1 l d v = l') (h : WA P ops S F Q z fuel (listed.setIfInBounds k true) (fr l') w) : WA P ops S F Q z (fuel + 1) listed (fr l) w := by
  subst hl
  refine wa_first ho hr hf (.inl ⟨by simp [Region.wanted], fun w1 hG => ?_⟩) ?_ (v := v)
  · unfold Oper.quietAt
    rw [exec_eq, eval_fr, hs w1 hG]
    exact ⟨rfl, rfl⟩
  · show WA _ _ _ _ _ _ _ _ ((fr l).put d v) w
    rw [put_set1]
    exact h
/-! ### The same, looking for their own proofs -/
theorem on {v : Value} (k : Nat) (ho : ops[k]? = some { dst := d, op := op, type := T, pos := pos, after := after, guard := none }) (h : WA P ops S F Q z fuel (listed.setIfInBounds k true) (fr l') w)
    (hs : ∀ w1 : World, (exec (ev l) op T).run P w1 = .ok (.value v) w1 := by
      intro _
      first
      | (with_reducible apply Go.Proofs.E.r_move)
      | (with_reducible apply Go.Proofs.E.r_assign)
      | ((with_reducible apply Go.Proofs.E.r_add32 ?hx ?hy); (case hx => exact rfl); (case hy => exact rfl))
      | ((with_reducible apply Go.Proofs.E.r_xor32 ?hx ?hy); (case hx => exact rfl); (case hy => exact rfl))
      | ((with_reducible apply Go.Proofs.E.r_and32 ?hx ?hy); (case hx => exact rfl); (case hy => exact rfl))
      | ((with_reducible apply Go.Proofs.E.r_or32 ?hx ?hy); (case hx => exact rfl); (case hy => exact rfl))
      | ((with_reducible apply Go.Proofs.E.r_compl32 ?hx); (case hx => exact rfl))
      | ((with_reducible apply Go.Proofs.E.r_shl32 ?hx ?hy ?hn ?hc); (case hx => exact rfl); (case hy => exact rfl); (case hn => first | exact rfl | exact (Int.toNat_of_nonneg (by omega)).symm); (case hc => first | decide | omega))
      | ((with_reducible apply Go.Proofs.E.r_shr32 ?hx ?hy ?hn ?hc); (case hx => exact rfl); (case hy => exact rfl); (case hn => first | exact rfl | exact (Int.toNat_of_nonneg (by omega)).symm); (case hc => first | decide | omega))
      | ((with_reducible apply Go.Proofs.E.r_c8to32 ?hx); (case hx => exact rfl))
      | ((with_reducible apply Go.Proofs.E.r_c32to8 ?hx); (case hx => exact rfl))
      | ((with_reducible apply Go.Proofs.E.r_indexAddr_arr ?hx ?hy ?h0 ?h1); (case hx => exact rfl); (case hy => exact rfl); (case h0 => first | decide | omega); (case h1 => first | decide | omega))
      | ((with_reducible apply Go.Proofs.E.r_fieldAddr ?hx ?hn); (case hx => exact rfl); (case hn => decide))
      | ((with_reducible apply Go.Proofs.E.r_to (Go.Proofs.E.r_add ?hx ?hy) ?hw); (case hx => exact rfl); (case hy => exact rfl); (case hw => exact Go.Proofs.E.wrap_rng (by exact rfl) (by omega) (by omega)))
      | ((with_reducible apply Go.Proofs.E.r_add ?hx ?hy); (case hx => exact rfl); (case hy => exact rfl))
      | ((with_reducible apply Go.Proofs.E.r_to (Go.Proofs.E.r_sub ?hx ?hy) ?hw); (case hx => exact rfl); (case hy => exact rfl); (case hw => exact Go.Proofs.E.wrap_rng (by exact rfl) (by omega) (by omega)))
      | ((with_reducible apply Go.Proofs.E.r_sub ?hx ?hy); (case hx => exact rfl); (case hy => exact rfl))
      | ((with_reducible apply Go.Proofs.E.r_to (Go.Proofs.E.r_mul ?hx ?hy) ?hw); (case hx => exact rfl); (case hy => exact rfl); (case hw => exact Go.Proofs.E.wrap_rng (by exact rfl) (by omega) (by omega)))
      | ((with_reducible apply Go.Proofs.E.r_mul ?hx ?hy); (case hx => exact rfl); (case hy => exact rfl))
      | ((with_reducible apply Go.Proofs.E.r_lss ?hx ?hy); (case hx => exact rfl); (case hy => exact rfl))
      | ((with_reducible apply Go.Proofs.E.r_leq ?hx ?hy); (case hx => exact rfl); (case hy => exact rfl))
      | ((with_reducible apply Go.Proofs.E.r_gtr ?hx ?hy); (case hx => exact rfl); (case hy => exact rfl))
      | ((with_reducible apply Go.Proofs.E.r_geq ?hx ?hy); (case hx => exact rfl); (case hy => exact rfl))
      | ((with_reducible apply Go.Proofs.E.r_eql ?hx ?hy); (case hx => exact rfl); (case hy => exact rfl))
      | ((with_reducible apply Go.Proofs.E.r_neq ?hx ?hy); (case hx => exact rfl); (case hy => exact rfl))
      | ((with_reducible apply Go.Proofs.E.r_not ?hx); (case hx => exact rfl))
      | ((with_reducible apply Go.Proofs.E.r_len ?hx); (case hx => exact rfl))
      | ((with_reducible apply Go.Proofs.E.r_lens ?hx); (case hx => exact rfl))
      | ((with_reducible apply Go.Proofs.E.r_nilCheck ?hx); (case hx => exact rfl))
      | ((with_reducible apply Go.Proofs.E.r_extract ?hx ?hy); (case hx => exact rfl); (case hy => exact rfl))
      | ((with_reducible apply Go.Proofs.E.r_to (Go.Proofs.E.r_conv ?hx) ?hw); (case hx => exact rfl); (case hw => exact Go.Proofs.E.wrap_rng (by exact rfl) (by omega) (by omega)))
      | ((with_reducible apply Go.Proofs.E.r_conv ?hx); (case hx => exact rfl))
      | ((with_reducible apply Go.Proofs.E.r_pick_t ?hx ?hb); (case hx => exact rfl); (case hb => first | exact rfl | exact decide_eq_true (by omega) | exact decide_eq_false (by omega) | assumption | exact decide_eq_true (by assumption) | exact decide_eq_false (by assumption)))
      | ((with_reducible apply Go.Proofs.E.r_pick_f ?hx ?hb); (case hx => exact rfl); (case hb => first | exact rfl | exact decide_eq_true (by omega) | exact decide_eq_false (by omega) | assumption | exact decide_eq_true (by assumption) | exact decide_eq_false (by assumption)))
      | ((with_reducible apply Go.Proofs.E.r_neg ?hx); (case hx => exact rfl))
      | ((with_reducible apply Go.Proofs.E.r_shl ?hx ?hy ?h0); (case hx => exact rfl); (case hy => exact rfl); (case h0 => omega))
      | ((with_reducible apply Go.Proofs.E.r_shr ?hx ?hy ?h0); (case hx => exact rfl); (case hy => exact rfl); (case h0 => omega))
      | ((with_reducible apply Go.Proofs.E.r_quo ?hx ?hy ?h0); (case hx => exact rfl); (case hy => exact rfl); (case h0 => omega))
      | ((with_reducible apply Go.Proofs.E.r_rem ?hx ?hy ?h0); (case hx => exact rfl); (case hy => exact rfl); (case h0 => omega)))
    (hl : set1 l d v = l' := by first | (dsimp only [List.set, Go.Proofs.E.set1, Go.Proofs.E.ev, Go.Proofs.E.nth]; done) | exact rfl) (hr : (Region.ready .any ops listed).contains k = true := by kernel_rfl) (hf : Region.free .any ops listed k = true := by kernel_rfl) : WA P ops S F Q z (fuel + 1) listed (fr l) w := onv k ho hr hf (fun w1 _ => hs w1) hl h
end
end Go.Proofs.E
set_option linter.unusedVariables false
set_option linter.unusedSimpArgs false
namespace Go.Proofs.E
open Go Go.RowKit
section
variable {P : Program} {ops : Array Oper} {md : Region.Mode} {G : World → World → Prop} {Q : Exit → Act → World → Prop} {z : List Nat × List Nat}
/-- Each of z's operations comes up alone. -/
def LateZ (md : Region.Mode) (ops : Array Oper) (z : List Nat × List Nat) : Prop := ∀ listed j, j ∈ z.1 → ∀ i, i ∉ z.2 → Dn md ops listed → j ∈ Region.ready md ops listed → i ∈ Region.ready md ops listed → i = j
def depsOf (ops : Array Oper) (m : Nat) : List Nat := match ops[m]? with | some o => (o.after.toList.filter fun e => Region.binds .any e).map (·.on) | none => []
def depsAll (ops : Array Oper) : Nat → List Nat → List Nat
  | 0, l => l
  | f + 1, l => depsAll ops f (l ++ (l.flatMap (depsOf ops))).eraseDups
def lateC (ops : Array Oper) (fr : List Nat) (z : Nat) : Bool := let b := depsAll ops 5 (depsOf ops z); (List.range ops.size).all fun i => fr.contains i || i == z || b.contains i || (depsAll ops 5 (depsOf ops i)).contains z
theorem depsOf_listed {ops : Array Oper} {listed : Array Bool} {m : Nat} (hD : Dn .any ops listed) (hm : listed.getD m true = true) (hlt : m < ops.size) : ∀ x ∈ depsOf ops m, listed.getD x false = true := by
  intro x hx
  unfold depsOf at hx
  rw [Array.getElem?_eq_getElem hlt] at hx
  simp only [List.mem_map, List.mem_filter] at hx
  obtain ⟨e, ⟨he, hb⟩, rfl⟩ := hx
  exact hD m _ (Array.getElem?_eq_getElem hlt) hm e (by simpa using he) hb
theorem getD_ft {listed : Array Bool} {x : Nat} (h : listed.getD x false = true) : listed.getD x true = true := by
  rcases Nat.lt_or_ge x listed.size with h' | h'
  · simp [h'] at h ⊢; exact h
  · simp [Array.getElem?_eq_none h'] at h
theorem depsAll_listed {ops : Array Oper} {listed : Array Bool} (hD : Dn .any ops listed) : ∀ (f : Nat) (l : List Nat), (∀ x ∈ l, listed.getD x false = true) → ∀ x ∈ depsAll ops f l, listed.getD x false = true
  | 0, l, h => h
  | f + 1, l, h => depsAll_listed hD f _ fun x hx => by
    have hx' : x ∈ l ++ l.flatMap (depsOf ops) := by simpa [List.mem_eraseDups] using hx
    rcases List.mem_append.1 hx' with hx | hx
    · exact h x hx
    · obtain ⟨m, hm, hmx⟩ := List.mem_flatMap.1 hx
      rcases Nat.lt_or_ge m ops.size with hlt | hge
      · exact depsOf_listed hD (getD_ft (h m hm)) hlt x hmx
      · unfold depsOf at hmx
        rw [Array.getElem?_eq_none hge] at hmx
        cases hmx
theorem ready_deps {ops : Array Oper} {listed : Array Bool} {j : Nat} (hj : j ∈ Region.ready .any ops listed) : ∀ x ∈ depsOf ops j, listed.getD x false = true := by
  obtain ⟨_, o, ho, hall⟩ := mem_ready.1 hj
  intro x hx
  unfold depsOf at hx
  rw [ho] at hx
  simp only [List.mem_map, List.mem_filter] at hx
  obtain ⟨e, ⟨he, hb⟩, rfl⟩ := hx
  exact hall e (by simpa using he) hb
theorem lateZ_of {ops : Array Oper} {z : List Nat × List Nat} (h : z.1.all (lateC ops z.2) = true) : LateZ .any ops z := by
  intro listed j hjz i hfr hD hj hi
  have hc := List.all_eq_true.1 h j hjz
  unfold lateC at hc
  have hlt : i < ops.size := by
    obtain ⟨_, o, ho, _⟩ := mem_ready.1 hi
    exact (Array.getElem?_eq_some_iff.1 ho).1
  have h1 := List.all_eq_true.1 hc i (List.mem_range.2 hlt)
  simp only [Bool.or_eq_true, beq_iff_eq, List.contains_iff_mem] at h1
  rcases h1 with ((h1 | h1) | h1) | h1
  · exact absurd h1 hfr
  · exact h1
  · exfalso
    have := getD_ft (depsAll_listed hD 5 _ (ready_deps hj) i h1)
    rw [(mem_ready.1 hi).1] at this
    cases this
  · exfalso
    have := getD_ft (depsAll_listed hD 5 _ (ready_deps hi) j h1)
    rw [(mem_ready.1 hj).1] at this
    cases this
/-- An operation that only reckons, whatever the world. -/
def Pure (P : Program) (ops : Array Oper) (o : Oper) (v : Value) (a : Act) : Prop :=
  (Region.wanted o (yielded ops a.tmps) = true ∧ ∀ w1, (execOp a.eval o).run P w1 = .ok (.value v) w1) ∨ (Region.wanted o (yielded ops a.tmps) = false ∧ v = undef)
theorem Pure.wpOp {i : Nat} {o : Oper} {v : Value} {a : Act} {w1 : World} (hi : ops[i]? = some o) (hy : Pure P ops o v a) {K : Act → World → Prop} (h : K (a.put o.dst v) w1) : wpOp P ops Q i K a w1 := by
  unfold Go.wpOp
  simp only [hi]
  rcases hy with ⟨hw, hv⟩ | ⟨hw, rfl⟩
  · simp only [hw, if_true]
    refine .inl ?_
    unfold Oper.wp
    rw [hv w1]
    exact h
  · simp only [hw, Bool.false_eq_true, if_false]
    exact h
theorem Pure.of_same {o : Oper} {v : Value} {a a' : Act} (hy : Pure P ops o v a) (he : execOp a'.eval o = execOp a.eval o) (hw : Region.wanted o (yielded ops a'.tmps) = Region.wanted o (yielded ops a.tmps)) : Pure P ops o v a' := by
  unfold Pure at *
  rw [he, hw]
  exact hy
theorem wpOp_putP {j : Nat} {oi oj : Oper} {v : Value} (hj : ops[j]? = some oj) (hap : oi.apart ops oj = true)
    (hsi : ∀ cs b, oi.op ≠ .select cs b) (hsj : ∀ cs b, oj.op ≠ .select cs b)
    (hQ : ∀ c a w, Q (.panic c) (a.put oi.dst v) w → Q (.panic c) a w) {K : Act → World → Prop} {a : Act} {w1 : World}
    (hy : Pure P ops oi v a) (h : wpOp P ops Q j K (a.put oi.dst v) w1) :
    wpOp P ops Q j (fun a' w' => Pure P ops oi v a' ∧ K (a'.put oi.dst v) w') a w1 := by
  obtain ⟨h1, h2, h3⟩ := Oper.apart_spec hap
  have keep : ∀ (a : Act), Pure P ops oi v a → ∀ u, Pure P ops oi v (a.put oj.dst u) := fun a hy u =>
    hy.of_same (execOp_put oi hsi a oj.dst u h3) (wanted_put oi a oj.dst u h3)
  have keepD : ∀ d, Pure P ops oi v { a with defers := d :: a.defers } := fun d => hy.of_same rfl rfl
  unfold wpOp at *
  simp only [hj] at *
  rw [wanted_put oj a oi.dst v h1] at h
  split
  · rename_i hw
    simp only [hw, if_true] at h
    rcases h with h | ⟨hasks, hlets⟩
    case inr => exact .inr ⟨by unfold Oper.asks at *; rw [execOp_put oj hsj a oi.dst v h1] at hasks; exact hasks, hlets⟩
    refine .inl ?_
    unfold Oper.wp at *
    rw [execOp_put oj hsj a oi.dst v h1] at h
    generalize (execOp a.eval oj).run P w1 = r at *
    cases r with
    | ok n w' =>
      cases n <;> simp only [Oper.upon] at h ⊢
      case value u => exact ⟨keep a hy u, by rw [← Act.put_comm a v u h2]; exact h⟩
      case skip => exact ⟨keep a hy _, by rw [← Act.put_comm a v undef h2]; exact h⟩
      case defer d =>
        refine ⟨keep _ (keepD d) _, ?_⟩
        rw [← Act.put_comm _ v undef h2, ← Act.put_defers]
        exact h
      case enter f args =>
        refine Calls.mono h fun e w'' he => ?_
        cases e with
        | returned u => exact ⟨keep a hy u, by rw [← Act.put_comm a v u h2]; exact he⟩
        | panicked c => exact hQ _ _ _ he
        | outgrown => exact he
      case row row args => exact Rows.mono h fun u w'' he => ⟨keep a hy u, by rw [← Act.put_comm a v u h2]; exact he⟩
    | halt x w' =>
      cases x <;> simp only [Oper.upon] at h ⊢
      case panic u => exact hQ _ _ _ h
  · rename_i hw
    simp only [hw] at h
    exact ⟨keep a hy _, by rw [← Act.put_comm a v undef h2]; exact h⟩
end
section
variable {P : Program} {ops : Array Oper} {S : List Nat} {F : Nat → World → Prop} {Q : Exit → Act → World → Prop} {z : List Nat × List Nat} {fuel : Nat} {listed : Array Bool} {a : Act} {l l' : List Value} {w : World}
  {op : Op} {T : TypeId} {pos : String} {after : Array Edge} {d : Option Nat}
/-! ### The same, looking for their own proofs -/
end
end Go.Proofs.E

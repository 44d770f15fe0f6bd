/- Strings in the engine, of law 34: places, parts; the library's functions on strings in the engine's words.
   Walks of law 34: a text's words, both.
   Walks of law 34: numbers and texts of words, both.
   Walks of law 34: the reader of words (program).
   Walks of law 34: the document's reader of words; a test.
   Walks of law 34: tests, both. -/
import Derived.Test.YtoimhmphhffelaaDoorQQueryBack11
import Derived.Test.YtoimhmphhffelaaDoorQQueryBack00
import Derived.Test.YtoimhmphhffelaaDoorQQueryBack19
import Derived.Test.YtoimhmphhffelaaDoorShelf
import Derived.Test.YtoimhmphhffelaaDoorQQueryBack12
import Derived.Laws.Strings2
import Derived.Laws.Strings3
import Derived.Lib.AppendIntMem
import Derived.Lib.AtoiErrMem
import Derived.Lib.IndexLaws
import Derived.WalkSmall
set_option linter.unusedVariables false
set_option linter.unusedSimpArgs false
namespace Go.Proofs.E
open Go Go.RowKit
section
variable {P : Program} {l : List Value} {w : World} {T : TypeId}
theorem bst_data (s : List UInt8) : (bst s).data.toList = s := by simp [bst]
theorem bst_extract (s : List UInt8) (a b : Nat) : (bst s).extract a b = bst ((s.take b).drop a) := by
  rw [Lib.extract_eq, bst_data]
  show bst _ = bst _
  rw [List.drop_take]
theorem r_idxS {x y : Operand} {t : TypeId} {s : List UInt8} {k : IntKind} {i : Int} {c : UInt8} [hU : Und P t .string] (hx : ev l x = .string (bst s)) (hy : ev l y = .int k i) (h0 : 0 ≤ i) (hc : s[i.toNat]? = some c) :
    (exec (ev l) (.index t x y) T).run P w = .ok (.value (u8v c)) w := by
  have hlt := (List.getElem?_eq_some_iff.1 hc).1
  have hi : 0 ≤ i ∧ i < (bst s).size := ⟨h0, by rw [bst_size]; omega⟩
  have h := run_index_string (P := P) w t (bst s) k i hU.out
  rw [dif_pos hi] at h
  have e : (bst s)[i.toNat]'(by omega) = c := by
    have h1 : (bst s)[i.toNat]'(by omega) = s[i.toNat] := by simp [bst, ByteArray.getElem_eq_getElem_data]
    rw [h1]
    exact (List.getElem?_eq_some_iff.1 hc).2
  rw [e] at h
  simp [exec, execOp, hx, hy, h, u8v]
theorem r_subLH {x y q : Operand} {t : TypeId} {s : List UInt8} {k k' : IntKind} {i j : Int} [hU : Und P t .string] (hx : ev l x = .string (bst s)) (hy : ev l y = .int k i) (hq : ev l q = .int k' j) (h0 : 0 ≤ i) (h1 : i ≤ j) (h2 : j ≤ s.length) :
    (exec (ev l) (.slice t x (some y) (some q) none) T).run P w = .ok (.value (.string (bst ((s.take j.toNat).drop i.toNat)))) w := by
  have h : (Instr.slice t (.string (bst s)) (some (.int k i)) (some (.int k' j)) none).run P w = .ok (.string (bst ((s.take j.toNat).drop i.toNat))) w := by
    simp [Instr.slice, run_underlying hU.out, bnd_lh (P := P) (w := w) (n := s.length) (c := s.length) (k := k) (k' := k') (b := false) h0 h1 h2, bst_extract]
  simp [exec, execOp, Instr.sliceAt, run_underlying hU.out, hx, hy, hq, h]
theorem r_subL {x y : Operand} {t : TypeId} {s : List UInt8} {k : IntKind} {i : Int} [hU : Und P t .string] (hx : ev l x = .string (bst s)) (hy : ev l y = .int k i) (h0 : 0 ≤ i) (h2 : i ≤ s.length) :
    (exec (ev l) (.slice t x (some y) none none) T).run P w = .ok (.value (.string (bst (s.drop i.toNat)))) w := by
  have h : (Instr.slice t (.string (bst s)) (some (.int k i)) none none).run P w = .ok (.string (bst (s.drop i.toNat))) w := by
    simp [Instr.slice, run_underlying hU.out, bnd_lo (P := P) (w := w) (n := s.length) (c := s.length) (k := k) (b := false) h0 h2, bst_extract]
  simp [exec, execOp, Instr.sliceAt, run_underlying hU.out, hx, hy, h]
theorem r_subH {x q : Operand} {t : TypeId} {s : List UInt8} {k : IntKind} {j : Int} [hU : Und P t .string] (hx : ev l x = .string (bst s)) (hq : ev l q = .int k j) (h0 : 0 ≤ j) (h2 : j ≤ s.length) :
    (exec (ev l) (.slice t x none (some q) none) T).run P w = .ok (.value (.string (bst (s.take j.toNat)))) w := by
  have h : (Instr.slice t (.string (bst s)) none (some (.int k j)) none).run P w = .ok (.string (bst (s.take j.toNat))) w := by
    simp [Instr.slice, run_underlying hU.out, bnd_hi (P := P) (w := w) (n := s.length) (c := s.length) (k := k) (b := false) h0 h2, bst_extract]
  simp [exec, execOp, Instr.sliceAt, run_underlying hU.out, hx, hq, h]
theorem r_gtS {x y : Operand} {t u : TypeId} {a b : List UInt8} [hU : Und P t .string] (hx : ev l x = .string (bst a)) (hy : ev l y = .string (bst b)) : (exec (ev l) (.binOp .gtr t x y u) T).run P w = .ok (.value (.bool (ltB b a))) w := by
  have h2 : (!Op.bytesLess a b && !(a == b)) = ltB b a := by
    have hb : (a == b) = decide (a = b) := by rw [Bool.eq_iff_iff, beq_iff_eq, decide_eq_true_eq]
    rw [hb]
    show (!ltB a b && !decide (a = b)) = ltB b a
    rcases ltB_total a b with h | h | h
    · rw [h, ltB_anti h]; rfl
    · subst h; rw [ltB_irr]; simp
    · rw [h, ltB_anti h]
      have : a ≠ b := fun e => by rw [e, ltB_irr] at h; cases h
      simp [this]
  simp [exec, execOp, hx, hy, eqGuard, binOp, Op.stringOp, bst_list, h2]
variable {ops : Array Oper} {Q : Exit → Act → World → Prop} {rest : List Oper} {op : Op} {pos : String} {after : Array Edge}
/-- One operation on strings that only reckons. -/
theorem ss {d : Nat} {v : Value} {l' : List Value} (h : wpList P ops Q rest (fr l') w)
    (hr : (exec (ev l) op T).run P w = .ok (.value v) w := by
      first
      | ((with_reducible apply Go.Proofs.E.r_lenS ?hx ?hy); (case hx => exact rfl); (case hy => first | omega | (simp only [List.length_cons]; omega)))
      | ((with_reducible apply Go.Proofs.E.r_eqst ?hx ?hy); (case hx => exact rfl); (case hy => exact rfl))
      | ((with_reducible apply Go.Proofs.E.r_neqst ?hx ?hy); (case hx => exact rfl); (case hy => exact rfl))
      | ((with_reducible apply Go.Proofs.E.r_idxS ?hx ?hy ?h0 ?hc); (case hx => exact rfl); (case hy => exact rfl); (case h0 => omega); (case hc => first | assumption | exact rfl))
      | ((with_reducible apply Go.Proofs.E.r_subLH ?hx ?hy ?hq ?h0 ?h1 ?h2); (case hx => exact rfl); (case hy => exact rfl); (case hq => exact rfl); (case h0 => omega); (case h1 => omega); (case h2 => first | omega | (simp only [List.length_cons]; omega)))
      | ((with_reducible apply Go.Proofs.E.r_subL ?hx ?hy ?h0 ?h2); (case hx => exact rfl); (case hy => exact rfl); (case h0 => omega); (case h2 => first | omega | (simp only [List.length_cons]; omega)))
      | ((with_reducible apply Go.Proofs.E.r_subH ?hx ?hq ?h0 ?h2); (case hx => exact rfl); (case hq => exact rfl); (case h0 => omega); (case h2 => first | omega | (simp only [List.length_cons]; omega)))
      | ((with_reducible apply Go.Proofs.E.r_ltS ?hx ?hy); (case hx => exact rfl); (case hy => exact rfl))
      | ((with_reducible apply Go.Proofs.E.r_geS ?hx ?hy); (case hx => exact rfl); (case hy => exact rfl))
      | ((with_reducible apply Go.Proofs.E.r_gtS ?hx ?hy); (case hx => exact rfl); (case hy => exact rfl)))
    (hl : l.set d v = l' := by first | (dsimp only [List.set, Go.Proofs.E.set1, Go.Proofs.E.ev, Go.Proofs.E.nth]; done) | exact rfl) :
    wpList P ops Q ({ dst := some d, op := op, type := T, pos := pos, after := after, guard := none } :: rest) (fr l) w := by subst hl; exact wl_val hr h
end
section
variable {P : Program} {l : List Value} {w : World} {T : TypeId} {ops : Array Oper} {Q : Exit → Act → World → Prop} {rest : List Oper} {op : Op} {pos : String} {after : Array Edge} {S : List Nat} {k zz : Nat} {listed : Array Bool}
theorem ssg {d : Nat} {v : Value} {l' : List Value} (h : wpLexG P ops (Ch S) Q zz rest (k + 1) (listed.setIfInBounds k true) (fr l') w)
    (hr : ∀ w1 : World, (exec (ev l) op T).run P w1 = .ok (.value v) w1 := by
      intro _
      first
      | ((with_reducible apply Go.Proofs.E.r_lenS ?hx ?hy); (case hx => exact rfl); (case hy => first | omega | (simp only [List.length_cons]; omega)))
      | ((with_reducible apply Go.Proofs.E.r_eqst ?hx ?hy); (case hx => exact rfl); (case hy => exact rfl))
      | ((with_reducible apply Go.Proofs.E.r_neqst ?hx ?hy); (case hx => exact rfl); (case hy => exact rfl))
      | ((with_reducible apply Go.Proofs.E.r_idxS ?hx ?hy ?h0 ?hc); (case hx => exact rfl); (case hy => exact rfl); (case h0 => omega); (case hc => first | assumption | exact rfl))
      | ((with_reducible apply Go.Proofs.E.r_subLH ?hx ?hy ?hq ?h0 ?h1 ?h2); (case hx => exact rfl); (case hy => exact rfl); (case hq => exact rfl); (case h0 => omega); (case h1 => omega); (case h2 => first | omega | (simp only [List.length_cons]; omega)))
      | ((with_reducible apply Go.Proofs.E.r_subL ?hx ?hy ?h0 ?h2); (case hx => exact rfl); (case hy => exact rfl); (case h0 => omega); (case h2 => first | omega | (simp only [List.length_cons]; omega)))
      | ((with_reducible apply Go.Proofs.E.r_subH ?hx ?hq ?h0 ?h2); (case hx => exact rfl); (case hq => exact rfl); (case h0 => omega); (case h2 => first | omega | (simp only [List.length_cons]; omega)))
      | ((with_reducible apply Go.Proofs.E.r_ltS ?hx ?hy); (case hx => exact rfl); (case hy => exact rfl))
      | ((with_reducible apply Go.Proofs.E.r_geS ?hx ?hy); (case hx => exact rfl); (case hy => exact rfl))
      | ((with_reducible apply Go.Proofs.E.r_gtS ?hx ?hy); (case hx => exact rfl); (case hy => exact rfl)))
    (hl : l.set d v = l' := by first | (dsimp only [List.set, Go.Proofs.E.set1, Go.Proofs.E.ev, Go.Proofs.E.nth]; done) | exact rfl) :
    wpLexG P ops (Ch S) Q zz ({ dst := some d, op := op, type := T, pos := pos, after := after, guard := none } :: rest) k listed (fr l) w := by
  subst hl
  exact wg_val (fun w1 _ => hr w1) h
end
theorem r_or16 {P : Program} {l : List Value} {w : World} {T : TypeId} {x y : Operand} {t u : TypeId} {a b : Nat} (hx : ev l x = .int .i64 ((a * 2 ^ 4 : Nat) : Int)) (hy : ev l y = .int .i64 (b : Int)) (ha : a < 16) (hb : b < 16) :
    (exec (ev l) (.binOp .or t x y u) T).run P w = .ok (.value (.int .i64 ((16 * a + b : Nat) : Int))) w := by
  refine (r_or hx hy).trans ?_
  have : ∀ a b : Fin 16, IntKind.i64.wrap (BitVec.ofInt IntKind.i64.bits ((a.1 * 2 ^ 4 : Nat) : Int) ||| BitVec.ofInt IntKind.i64.bits (b.1 : Int)).toNat = ((16 * a.1 + b.1 : Nat) : Int) := by decide +kernel
  rw [this ⟨a, ha⟩ ⟨b, hb⟩]
theorem r_shl4 {P : Program} {l : List Value} {w : World} {T : TypeId} {x y : Operand} {t u : TypeId} {q : IntKind} {a : Nat} (hx : ev l x = .int .i64 (a : Int)) (hy : ev l y = .int q 4) (ha : a < 16) :
    (exec (ev l) (.binOp .shl t x y u) T).run P w = .ok (.value (.int .i64 ((a * 2 ^ 4 : Nat) : Int))) w := by
  refine (r_shl hx hy (by omega)).trans ?_
  have : ∀ a : Fin 16, IntKind.i64.wrap ((a.1 : Int) * 2 ^ min (4 : Int).toNat IntKind.i64.bits) = ((a.1 * 2 ^ 4 : Nat) : Int) := by decide +kernel
  rw [this ⟨a, ha⟩]
theorem r_nilI {P : Program} {l : List Value} {w : World} {T : TypeId} {x : Operand} {t u : TypeId} (hu : P.underlying t = some (.interface (P.methodsAt t))) (hx : ev l x = .nilIface) :
    (exec (ev l) (.binOp .eql t x (.const .nilIface) u) T).run P w = .ok (.value (.bool true)) w := by
  have hy : ev l (.const .nilIface) = .nilIface := rfl
  have h : ∀ d, (Op.equalIn (d + 1) t .nilIface .nilIface).run P w = .ok true w := fun d => by simp [Op.equalIn, run_underlying hu]
  have h2 : (Op.equal t .nilIface .nilIface).run P w = .ok true w := h 9999
  simp [exec, execOp, hx, hy, eqGuard_nil_constR, binOp, h2]
/-- What comes behind is walked once; a way out by return is kept. -/
def JJ (J : List Value → World → Prop) : Act → World → Prop := fun a w => ∃ l, a = fr l ∧ J l w
theorem jj {J : List Value → World → Prop} {l : List Value} {w : World} (h : J l w) : JJ J (fr l) w := ⟨l, rfl, h⟩
theorem c_cutQ {P : Program} {c : Code} {K : Act → World → Prop} {Q : Exit → Act → World → Prop} {l : List Value} {w : World} (J : List Value → World → Prop) (h : c.wp P (Exit.then (JJ J) Q) (fr l) w) (hk : ∀ l w, J l w → K (fr l) w) : c.wp P (Exit.then K Q) (fr l) w :=
  wp_mono h fun e a w h => by
    cases e with
    | normal =>
      obtain ⟨l, rfl, hj⟩ := h
      exact hk l w hj
    | _ => exact h
theorem indexByte_take : ∀ (t : List UInt8) (c : UInt8), (Lib.indexByte t c = -1 ∧ t.takeWhile (fun x => x != c) = t) ∨ (Lib.indexByte t c = ((t.takeWhile (fun x => x != c)).length : Int) ∧ (t.takeWhile (fun x => x != c)).length < t.length)
  | [], _ => .inl ⟨rfl, rfl⟩
  | a :: t, c => by
    unfold Lib.indexByte
    rw [List.takeWhile_cons]
    by_cases h : a = c
    · subst h
      right
      simp
    · have h1 : (a == c) = false := by simpa using h
      have h2 : (a != c) = true := by simpa using h
      rw [h1, h2]
      simp only [if_true, Bool.false_eq_true, if_false]
      rcases indexByte_take t c with ⟨e, e2⟩ | ⟨e, e2⟩
      · left
        rw [e, e2]
        exact ⟨rfl, rfl⟩
      · right
        rw [e]
        have : ¬ (((t.takeWhile (fun x => x != c)).length : Int) == -1) = true := by simp
        rw [if_neg this]
        simp only [List.length_cons]
        omega
/-- What a listed variable holds. -/
def LaidG (g : Nat) (cs : List Value) (w : World) : Prop := ∃ t fz, w.heap[g]? = some (.cells cs.toArray t fz)
theorem LaidG.ch {g : Nat} {cs : List Value} {S : List Nat} {w w' : World} (h : LaidG g cs w) (hc : Ch S w w') (hn : g ∉ S) : LaidG g cs w' := by
  obtain ⟨t, fz, h⟩ := h
  exact ⟨t, fz, (hc.block g (Array.getElem?_eq_some_iff.1 h).1 hn).trans h⟩
theorem LaidG.lt {g : Nat} {cs : List Value} {w : World} (h : LaidG g cs w) : g < w.heap.size := by
  obtain ⟨t, fz, h⟩ := h
  exact (Array.getElem?_eq_some_iff.1 h).1
theorem LaidG.cell {g : Nat} {cs : List Value} {w : World} (h : LaidG g cs w) (i : Nat) : w.cell? ⟨g, i, none⟩ = cs[i]? := by
  obtain ⟨t, fz, h⟩ := h
  unfold World.cell?
  rw [h]
  simp
theorem LaidG.rd {α : Type} {en : En α} {g : Nat} {xs : List α} {w : World} (h : LaidG g (xs.map fun x => (en.f x).headD undef) w) (h1 : en.n = 1) (hl : xs.length ≤ 9223372036854775807) (S : List Nat) (hg : g ∉ S) : (Ty.enc en).Rd S w (.slice (some ⟨g, 0, none⟩) xs.length xs.length) xs := by
  refine ⟨hl, some ⟨g, 0, none⟩, xs.length, rfl, by omega, fun hne => ⟨g, 0, rfl, h.lt, hg, fun i x hx => ?_⟩⟩
  refine ⟨h.lt, hg, en.f x, rfl, fun j v hv => ?_⟩
  show w.cell? ⟨g, 0 + i * en.n + j, none⟩ = some v
  have hlen := en.hl x
  rw [h1] at hlen ⊢
  have hj : j = 0 := by
    have := (List.getElem?_eq_some_iff.1 hv).1
    omega
  subst hj
  rw [show 0 + i * 1 + 0 = i by omega, h.cell i, List.getElem?_map, hx]
  simp only [Option.map_some]
  cases hf : en.f x with
  | nil => rw [hf] at hlen; cases hlen
  | cons a u =>
    rw [hf] at hv
    simpa using hv
theorem gs {G H : Prop} (h : H) (s : Hd H → G := by
  intro h
  (first | ((with_reducible apply is_ld); first | refine kld hM ?_ | refine kldw hM ?_ | refine kle hM ?_ | refine klew hM ?_) | ((with_reducible apply is_st); (first | refine ss ?_ | refine su ?_)) | ((with_reducible apply is_gd); first | refine gt ?_ | refine gf ?_ | refine gu ?_) | ((with_reducible apply is_en); refine en ?_) | (with_reducible apply c_region) | refine ws ?_ | refine x_block_other (by decide) ?_ | fail)
  repeat (first | ((with_reducible apply is_ld); first | refine kld hM ?_ | refine kldw hM ?_ | refine kle hM ?_ | refine klew hM ?_) | ((with_reducible apply is_st); (first | refine ss ?_ | refine su ?_)) | ((with_reducible apply is_gd); first | refine gt ?_ | refine gf ?_ | refine gu ?_) | ((with_reducible apply is_en); refine en ?_) | (with_reducible apply c_region) | refine ws ?_ | refine x_block_other (by decide) ?_)
  exact h.out) : G := s ⟨h⟩
theorem gsb {G H : Prop} (h : H) (s : Hd H → G := by
  intro h
  (first | ((with_reducible apply is_ld); first | refine kld hM ?_ | refine kldw hM ?_ | refine kle hM ?_ | refine klew hM ?_) | ((with_reducible apply is_st); (first | refine ss ?_ | refine su ?_)) | ((with_reducible apply is_gd); first | refine gt ?_ | refine gf ?_ | refine gu ?_) | ((with_reducible apply is_en); refine en ?_) | refine ws ?_ | refine x_block_other (by decide) ?_ | fail)
  repeat (first | ((with_reducible apply is_ld); first | refine kld hM ?_ | refine kldw hM ?_ | refine kle hM ?_ | refine klew hM ?_) | ((with_reducible apply is_st); (first | refine ss ?_ | refine su ?_)) | ((with_reducible apply is_gd); first | refine gt ?_ | refine gf ?_ | refine gu ?_) | ((with_reducible apply is_en); refine en ?_) | refine ws ?_ | refine x_block_other (by decide) ?_)
  exact h.out) : G := s ⟨h⟩
end Go.Proofs.E
set_option linter.unusedVariables false
set_option linter.unusedSimpArgs false
namespace Go.Proofs.YtoimhmphhffelaaDoor
open Go Go.RowKit Go.Proofs.E
attribute [local irreducible] Go.wpList Go.Code.wp Go.Proofs.E.exec Go.Proofs.E.wpLexG
theorem trim_any (s : List UInt8) (w : World) : Calls Tryd.prog 31 #[.string (bst s), .string ⟨#[32]⟩] w (Ret fun u w' => u = .string (bst (s.dropWhile (fun x => x == 32))) ∧ w' = w) := by
  refine (Tryd.strings_TrimLeft_one (bst s) 32 (by decide) w).mono fun e w' ⟨he, hw⟩ => ⟨_, he, ?_, hw⟩
  rw [bst_data]
  rfl
theorem ixb_any (s : List UInt8) (c : UInt8) (w : World) : Calls Tryd.prog 32 #[.string (bst s), u8v c] w (Ret fun u w' => u = .int .i64 (Lib.indexByte s c) ∧ w' = w) := by
  refine (Tryd.strings_IndexByte (bst s) (c.toNat : Int) w).mono fun e w' ⟨he, hw⟩ => ⟨_, he, ?_, hw⟩
  rw [bst_data, Int.toNat_natCast]
  simp
set_option maxHeartbeats 8000000 in
theorem qsplit_any (s : List UInt8) (w0 : World) (hs : s.length ≤ 100000) :
    Calls Tryd.prog 10 #[.string (bst s)] w0 (Ret fun u w' => Ch [] w0 w' ∧ Go.Proofs.E.Own eBs w' w0.heap.size 9 u (wordsB s)) := by
  have hM := Mem.start w0
  refine enter [.string (bst s), undef, undef, undef, undef, undef, undef, undef, undef, undef, undef, undef, undef, undef, undef, undef, undef, undef, undef, undef, undef, undef, undef, undef, undef, undef, undef, undef, undef, undef, undef, undef, undef, undef, undef, undef, undef, undef, undef, undef, undef, undef, undef, undef, undef, undef] Tryd.func10 rfl rfl ?_
  repeat (first | refine gs ?_ | (refine ks ?_; intro w hM))
  refine kcs (trim_any s w0) ?_
  repeat (first | refine gs ?_ | (refine ks ?_; intro w hM))
  have hM := hM.nilRow eBs 9
  have hd : wordsB (s.dropWhile (fun x => x == 32)) = wordsB s := by
    cases h : s.dropWhile (fun x => x == 32) with
    | nil => rw [words_end h]; rfl
    | cons c t =>
      rw [words_step h]
      exact words_word (by simpa using dropWhile_head h)
  have hdl := dropWhile_le (fun x => x == 32) s
  
  refine c_loop (fun n l w => ∃ (cur : List UInt8) (acc : List (List UInt8)) (v3 : Value), (∃ jj : Nat → Value, l = [.string (bst cur), jj 1, jj 2, v3, jj 4, jj 5, jj 6, jj 7, jj 8, jj 9, jj 10, jj 11, jj 12, jj 13, jj 14, jj 15, jj 16, jj 17, jj 18, jj 19, jj 20, jj 21, jj 22, jj 23, jj 24, jj 25, jj 26, jj 27, jj 28, jj 29, jj 30, jj 31, jj 32, jj 33, jj 34, jj 35, jj 36, jj 37, jj 38, jj 39, jj 40, jj 41, jj 42, jj 43, jj 44, jj 45]) ∧ cur.length = n ∧ acc.length + cur.length ≤ s.length ∧ (∀ c t, cur = c :: t → c ≠ 32) ∧ acc ++ wordsB cur = wordsB s ∧ Mem [] w0 w [.row eBs 9 v3 acc]) _
    ⟨s.dropWhile (fun x => x == 32), [], .slice none 0 0, exj rfl, rfl, by simpa using hdl, fun c t h => by simpa using dropWhile_head h, hd, hM⟩ ?_
  clear hM hd hdl
  rintro n l w ⟨cur, acc, v3, ⟨jj, rfl⟩, hn, hal, hc0, hacc, hM⟩
  repeat (first | refine gs ?_ | (refine ks ?_; intro w hM))
  cases cur with
  | nil =>
    repeat (first | refine gs ?_ | (refine ks ?_; intro w hM))
    refine c_condb rfl (fun h => by cases h) (fun _ => ?_)
    repeat (first | refine gs ?_ | (refine ks ?_; intro w hM))
    rw [show wordsB [] = [] from rfl, List.append_nil] at hacc
    have hO := hM.row (v := v3) (by (repeat constructor))
    rw [hacc] at hO
    exact out1 rfl ⟨hM.ch, hO⟩
  | cons c t =>
  have hcb := hc0 c t rfl
  have hw := words_word (t := t) hcb
  have hwl := wlen_cons c t
  have hwp := wlen_pos (t := t) hcb
  have hwe := wlen_le (c :: t)
  rw [decide_eq_false (by simp : ¬ c :: t = [])]
  refine c_condb rfl (fun _ => ?_) (fun h => by cases h)
  simp only [List.length_cons] at hn hal hwe
  repeat (first | refine gs ?_ | (refine ks ?_; intro w hM))
  obtain ⟨e, he⟩ : ∃ e : Nat, e = if c = 39 then 1 + (t.takeWhile (fun x => x != 39)).length else 0 := ⟨_, rfl⟩
  have htw := takeWhile_le (fun x => x != 39) t
  have hel : e ≤ t.length + 1 := by rw [he]; split <;> omega
  have hwl : wlen (c :: t) = e + (((c :: t).drop e).takeWhile (fun x => x != 32)).length := by
    rw [hwl, he]
    split
    · rfl
    · rw [Nat.zero_add, List.drop_zero]
  
  refine c_cutJ (fun l w => (∃ jj : Nat → Value, l = [.string (bst (c :: t)), jj 1, jj 2, v3, .int .i64 (e : Int), jj 5, jj 6, jj 7, jj 8, jj 9, jj 10, jj 11, jj 12, jj 13, jj 14, jj 15, jj 16, jj 17, jj 18, jj 19, jj 20, jj 21, jj 22, jj 23, jj 24, jj 25, jj 26, jj 27, jj 28, jj 29, jj 30, jj 31, jj 32, jj 33, jj 34, jj 35, jj 36, jj 37, jj 38, jj 39, jj 40, jj 41, jj 42, jj 43, jj 44, jj 45]) ∧ Mem [] w0 w [.row eBs 9 v3 acc]) ?_ ?_
  · refine c_cond rfl (fun hp => ?_) (fun hp => ?_)
    · have hc39 : c = 39 := UInt8.toNat_inj.1 (by show c.toNat = 39; omega)
      rw [if_pos hc39] at he
      repeat (first | refine gs ?_ | (refine ks ?_; intro w hM))
      refine kcs (ixb_any t 39 w) ?_
      repeat (first | refine gs ?_ | (refine ks ?_; intro w hM))
      rcases indexByte_take t 39 with ⟨h1, h2⟩ | ⟨h1, h2⟩
      · rw [h1]
        rw [h2] at he
        refine c_condb rfl (fun h => by cases h) (fun _ => ?_)
        repeat (first | refine gs ?_ | (refine ks ?_; intro w hM))
        subst he
        exact outJ ⟨exj (by simp [nth, Nat.add_comm]), hM⟩
      · rw [h1]
        refine c_cond rfl (fun _ => ?_) (fun h => absurd (by omega) h)
        repeat (first | refine gs ?_ | (refine ks ?_; intro w hM))
        subst he
        exact outJ ⟨exj (by simp [nth, Int.add_comm]), hM⟩
    · have hc39 : c ≠ 39 := fun h => hp (by rw [h]; rfl)
      rw [if_neg hc39] at he
      repeat (first | refine gs ?_ | (refine ks ?_; intro w hM))
      subst he
      exact outJ ⟨exj rfl, hM⟩
  clear hM he hcb
  rintro l w ⟨⟨jj, rfl⟩, hM⟩
  repeat (first | refine gs ?_ | (refine ks ?_; intro w hM))
  refine kcs (ixb_any ((c :: t).drop e) 32 w) ?_
  repeat (first | refine gs ?_ | (refine ks ?_; intro w hM))
  
  have hdl : ((c :: t).drop e).length = t.length + 1 - e := by rw [List.length_drop, List.length_cons]
  refine c_cutJ (fun l w => (∃ jj : Nat → Value, l = [.string (bst (c :: t)), jj 1, jj 2, v3, .int .i64 (wlen (c :: t) : Int), jj 5, jj 6, jj 7, jj 8, jj 9, jj 10, jj 11, jj 12, jj 13, jj 14, jj 15, jj 16, jj 17, jj 18, jj 19, jj 20, jj 21, jj 22, jj 23, jj 24, jj 25, jj 26, jj 27, jj 28, jj 29, jj 30, jj 31, jj 32, jj 33, jj 34, jj 35, jj 36, jj 37, jj 38, jj 39, jj 40, jj 41, jj 42, jj 43, jj 44, jj 45]) ∧ Mem [] w0 w [.row eBs 9 v3 acc]) ?_ ?_
  · rcases indexByte_take ((c :: t).drop e) 32 with ⟨h1, h2⟩ | ⟨h1, h2⟩
    · rw [h1]
      rw [h2, hdl] at hwl
      refine c_condb rfl (fun h => by cases h) (fun _ => ?_)
      repeat (first | refine gs ?_ | (refine ks ?_; intro w hM))
      exact outJ ⟨exj (by simp [nth, hwl]; omega), hM⟩
    · rw [h1]
      rw [hdl] at h2
      refine c_cond rfl (fun _ => ?_) (fun h => absurd (by omega) h)
      repeat (first | refine gs ?_ | (refine ks ?_; intro w hM))
      exact outJ ⟨exj (by simp [nth, hwl]), hM⟩
  clear hM hwl hel
  rintro l w ⟨⟨jj, rfl⟩, hM⟩
  repeat (first | refine gs ?_ | (refine ks ?_; intro w hM))
  refine kpu ((c :: t).take (wlen (c :: t))) hM (fun u v' w hM => ?_)
  repeat (first | refine gs ?_ | (refine ks ?_; intro w hM))
  refine kcs (trim_any ((c :: t).drop (wlen (c :: t))) w) ?_
  repeat (first | refine gs ?_ | (refine ks ?_; intro w hM))
  have hd : wordsB (((c :: t).drop (wlen (c :: t))).dropWhile (fun x => x == 32)) = wordsB ((c :: t).drop (wlen (c :: t))) := by
    cases h : ((c :: t).drop (wlen (c :: t))).dropWhile (fun x => x == 32) with
    | nil => rw [words_end h]; rfl
    | cons c2 t2 =>
      rw [words_step h]
      exact words_word (by simpa using dropWhile_head h)
  have hl := dropWhile_le (fun x => x == 32) ((c :: t).drop (wlen (c :: t)))
  rw [List.length_drop, List.length_cons] at hl
  exact x_goes (((c :: t).drop (wlen (c :: t))).dropWhile (fun x => x == 32)).length rfl (by omega) ⟨_, acc ++ [(c :: t).take (wlen (c :: t))], v', exj rfl, rfl, by rw [List.length_append, List.length_singleton]; omega, fun c t h => by simpa using dropWhile_head h,
    by rw [hd, List.append_assoc, ← hacc, hw]; rfl, hM⟩
/-! ### The document's -/
end Go.Proofs.YtoimhmphhffelaaDoor
set_option linter.unusedVariables false
set_option linter.unusedSimpArgs false
namespace Go.Proofs.YtoimhmphhffelaaDoor
open Go Go.RowKit Go.Proofs.E
attribute [local irreducible] Go.wpList Go.Code.wp Go.Proofs.E.exec Go.Proofs.E.wpLexG
/-! ### Numbers -/
theorem digit_iff {c : UInt8} : (48 ≤ c.toNat ∧ c.toNat ≤ 57 ∧ Lib.digitVal c = some (c.toNat - 48)) ∨ ((c.toNat < 48 ∨ 57 < c.toNat) ∧ Lib.digitVal c = none) := by
  unfold Lib.digitVal
  split
  · left; rename_i h; exact ⟨h.1, h.2, rfl⟩
  · right; exact ⟨by omega, rfl⟩
theorem decFrom_bad : ∀ {s : List UInt8} {a i : Nat} {c : UInt8}, s[i]? = some c → Lib.digitVal c = none → Lib.decFrom a s = none
  | [], a, i, c, h, _ => by cases h
  | b :: s, a, 0, c, h, hd => by
    injection h with h
    subst h
    unfold Lib.decFrom
    rw [hd]
  | b :: s, a, i + 1, c, h, hd => by
    rw [List.getElem?_cons_succ] at h
    unfold Lib.decFrom
    split
    · exact decFrom_bad h hd
    · rfl
theorem numI_long {s : List UInt8} (h : 9 < s.length) : numI s = none := by
  unfold numI numQ
  rw [if_neg (by omega)]
  rfl
theorem numI_bad {s : List UInt8} {i : Nat} {c : UInt8} (h : s[i]? = some c) (hd : Lib.digitVal c = none) : numI s = none := by
  unfold numI numQ Lib.decNat
  rw [decFrom_bad h hd]
  split
  · split <;> rfl
  · rfl
theorem numI_good {s : List UInt8} {n : Nat} (h0 : s ≠ []) (hl : s.length ≤ 9) (h : Lib.decFrom 0 s = some n) : numI s = some (n : Int) := by
  unfold numI numQ Lib.decNat
  rw [if_pos hl, if_neg (by simpa using h0), h]
  rfl
theorem atoi_good {s : List UInt8} {n : Nat} (h0 : s ≠ []) (h : Lib.decFrom 0 s = some n) : Lib.atoi s = some (n : Int) := by
  cases s with
  | nil => exact absurd rfl h0
  | cons b r =>
    have hb : Lib.digitVal b ≠ none := fun hn => by
      have := decFrom_bad (s := b :: r) (a := 0) (i := 0) rfl hn
      rw [h] at this
      cases this
    have e : Lib.atoi (b :: r) = if b == 45 then (Lib.decNat r).map fun (m : Nat) => -(m : Int) else if b == 43 then (Lib.decNat r).map fun (m : Nat) => (m : Int) else (Lib.decNat (b :: r)).map fun (m : Nat) => (m : Int) := rfl
    rw [e]
    rcases digit_iff (c := b) with ⟨h1, h2, _⟩ | ⟨_, h3⟩
    · have e1 : ¬ (b == 45) = true := fun e => by
        have : b = 45 := by simpa using e
        subst this
        exact absurd h1 (by decide)
      have e2 : ¬ (b == 43) = true := fun e => by
        have : b = 43 := by simpa using e
        subst this
        exact absurd h1 (by decide)
      rw [if_neg e1, if_neg e2]
      unfold Lib.decNat
      rw [if_neg (by simp), h]
      rfl
    · exact absurd h3 hb
theorem atoi_any (s : List UInt8) (n : Int) (w : World) (hl : s.length ≤ 18) (h : Lib.atoi s = some n) : Calls Tryd.prog 35 #[.string (bst s)] w (Ret fun u w' => u = .tuple #[.int .i64 n, .nilIface] ∧ Ch [] w w') := by
  refine (Tryd.strconv_Atoi (bst s) n (by rw [bst_size]; exact hl) (by rw [bst_data]; exact h) w).mono fun e w' ⟨he, t, hw⟩ => ⟨_, he, rfl, ?_⟩
  subst hw
  exact Ch.of_below (Lib.bytesWorld_below _ _ _)
set_option maxHeartbeats 8000000 in
theorem number_any (s : List UInt8) (w0 : World) (hs : s.length ≤ 100000) :
    Calls Tryd.prog 16 #[.string (bst s)] w0 (Ret fun u w' => u = .tuple #[.int .i64 ((numI s).getD 0), .bool (numI s).isSome] ∧ Ch [] w0 w') := by
  have hM := Mem.start w0
  refine enter [.string (bst s), undef, undef, undef, undef, undef, undef, undef, undef, undef, undef, undef, undef, undef, undef, undef, undef, undef, undef, undef, undef, undef, undef, undef, undef, undef, undef, undef, undef, undef, undef, undef, undef, undef, undef, undef, undef, undef] Tryd.func16 rfl rfl ?_
  repeat (first | refine gs ?_ | (refine ks ?_; intro w hM))
  by_cases h0 : s = []
  · subst h0
    repeat (first | refine gs ?_ | (refine ks ?_; intro w hM))
    refine c_condb rfl (fun _ => ?_) (fun h => by cases h)
    repeat (first | refine gs ?_ | (refine ks ?_; intro w hM))
    exact out2 rfl ⟨rfl, hM.ch⟩
  rw [decide_eq_false h0]
  repeat (first | refine gs ?_ | (refine ks ?_; intro w hM))
  by_cases hl : 9 < s.length
  · rw [decide_eq_true (by omega : (9 : Int) < (s.length : Int))]
    refine c_condb rfl (fun _ => ?_) (fun h => by cases h)
    repeat (first | refine gs ?_ | (refine ks ?_; intro w hM))
    rw [numI_long hl]
    exact out2 rfl ⟨rfl, hM.ch⟩
  rw [decide_eq_false (by omega : ¬ (9 : Int) < (s.length : Int))]
  refine c_condb rfl (fun h => by cases h) (fun _ => ?_)
  repeat (first | refine gs ?_ | (refine ks ?_; intro w hM))
  
  refine c_loop (fun n l w => ∃ (i : Nat), (∃ jj : Nat → Value, l = [.string (bst s), jj 1, jj 2, jj 3, jj 4, jj 5, jj 6, jj 7, jj 8, jj 9, jj 10, jj 11, jj 12, jj 13, jj 14, .int .i64 (s.length : Int), .int .i64 (i : Int), jj 17, jj 18, jj 19, jj 20, jj 21, jj 22, jj 23, jj 24, jj 25, jj 26, jj 27, jj 28, jj 29, jj 30, jj 31, jj 32, jj 33, jj 34, jj 35, jj 36, jj 37]) ∧ n + i = s.length ∧ (∃ v, Lib.decFrom 0 (s.take i) = some v) ∧ Mem [] w0 w []) s.length
    ⟨0, exj rfl, rfl, ⟨0, rfl⟩, hM⟩ ?_
  clear hM
  rintro n l w ⟨i, ⟨jj, rfl⟩, hn, ⟨v, hv⟩, hM⟩
  repeat (first | refine gs ?_ | (refine ks ?_; intro w hM))
  refine c_cond rfl (fun hi => ?_) (fun hi => ?_)
  · obtain ⟨c, hc⟩ : ∃ c, s[i]? = some c := ⟨_, List.getElem?_eq_getElem (by omega)⟩
    repeat (first | refine gs ?_ | (refine ks ?_; intro w hM))
    rcases digit_iff (c := c) with ⟨h1, h2, h3⟩ | ⟨h1, h3⟩
    · rw [decide_eq_false (by omega : ¬ (c.toNat : Int) < 48)]
      repeat (first | refine gs ?_ | (refine ks ?_; intro w hM))
      rw [decide_eq_false (by omega : ¬ (57 : Int) < (c.toNat : Int))]
      refine c_condb rfl (fun h => by cases h) (fun _ => ?_)
      repeat (first | refine gs ?_ | (refine ks ?_; intro w hM))
      exact x_goes (n - 1) rfl (by omega) ⟨i + 1, exj rfl, by omega, ⟨_, Lib.decFrom_take s i 0 v c _ hv hc h3⟩, hM⟩
    · have hz := numI_bad hc h3
      by_cases h4 : c.toNat < 48
      · rw [decide_eq_true (by omega : (c.toNat : Int) < 48)]
        repeat (first | refine gs ?_ | (refine ks ?_; intro w hM))
        refine c_condb rfl (fun _ => ?_) (fun h => by cases h)
        repeat (first | refine gs ?_ | (refine ks ?_; intro w hM))
        rw [hz]
        exact out2 rfl ⟨rfl, hM.ch⟩
      · rw [decide_eq_false (by omega : ¬ (c.toNat : Int) < 48)]
        repeat (first | refine gs ?_ | (refine ks ?_; intro w hM))
        rw [decide_eq_true (by omega : (57 : Int) < (c.toNat : Int))]
        refine c_condb rfl (fun _ => ?_) (fun h => by cases h)
        repeat (first | refine gs ?_ | (refine ks ?_; intro w hM))
        rw [hz]
        exact out2 rfl ⟨rfl, hM.ch⟩
  · rw [List.take_of_length_le (by omega)] at hv
    repeat (first | refine gs ?_ | (refine ks ?_; intro w hM))
    refine kca hM (atoi_any s v w (by omega) (atoi_good h0 hv)) (fun w hM => ?_)
    repeat (first | refine gsb ?_ | (refine ks ?_; intro w hM))
    refine kdr hM (by kernel_rfl) (by kernel_rfl) (fun w hM => ?_)
    repeat (first | ((with_reducible apply is_ldg); first | refine kldg hM ?_ | refine kldwg hM ?_) | ((with_reducible apply is_sg); (first | refine ssg ?_ | refine sgu ?_)) | ((with_reducible apply is_gg); first | refine gtg ?_ | refine gfg ?_ | refine gug ?_) | ((with_reducible apply is_eg); refine eg ?_))
    (try ((with_reducible apply is_gg); first | refine gtg ?_ | refine gfg ?_ | refine gug ?_)); refine wg_val (fun _ _ => r_nilI (by kernel_rfl) rfl) ?_
    repeat (first | ((with_reducible apply is_ldg); first | refine kldg hM ?_ | refine kldwg hM ?_) | ((with_reducible apply is_sg); (first | refine ssg ?_ | refine sgu ?_)) | ((with_reducible apply is_gg); first | refine gtg ?_ | refine gfg ?_ | refine gug ?_) | ((with_reducible apply is_eg); refine eg ?_))
    (intro w hc; have hM := hM.call hc)
    repeat (first | refine gs ?_ | (refine ks ?_; intro w hM))
    rw [numI_good h0 (by omega) hv]
    exact out2 rfl ⟨rfl, hM.ch⟩
/-! ### Texts -/
theorem itself_any (c : UInt8) (w : World) : Calls Tryd.prog 36 #[u8v c] w (Ret fun u w' => u = .bool (selfB c) ∧ w' = w) := by
  unfold u8v selfB
  refine enter [.int .u8 (c.toNat : Int), undef, undef, undef, undef, undef, undef, undef, undef, undef, undef, undef, undef, undef, undef, undef, undef] Tryd.func36 rfl rfl ?_
  repeat (first | refine gs ?_ | (refine ks ?_; intro w hM))
  by_cases h1 : 32 ≤ c.toNat
  · rw [decide_eq_true (by omega : (32 : Int) ≤ (c.toNat : Int)), decide_eq_true h1]
    repeat (first | refine gs ?_ | (refine ks ?_; intro w hM))
    by_cases h2 : c.toNat ≤ 126
    · rw [decide_eq_true (by omega : (c.toNat : Int) ≤ 126), decide_eq_true h2]
      repeat (first | refine gs ?_ | (refine ks ?_; intro w hM))
      have e1 : decide (¬ (c.toNat : Int) = 39) = (c != 39) := by
        rw [Bool.eq_iff_iff, decide_eq_true_eq]
        simp only [bne_iff_ne, ne_eq]
        exact ⟨fun h e => h (by rw [e]; rfl), fun h e => h (UInt8.toNat_inj.1 (by show c.toNat = 39; omega))⟩
      have e2 : decide (¬ (c.toNat : Int) = 37) = (c != 37) := by
        rw [Bool.eq_iff_iff, decide_eq_true_eq]
        simp only [bne_iff_ne, ne_eq]
        exact ⟨fun h e => h (by rw [e]; rfl), fun h e => h (UInt8.toNat_inj.1 (by show c.toNat = 37; omega))⟩
      show wpList _ _ _ _ (fr _) _
      simp only [ne_eq, e1]
      cases h3 : (c != 39) with
      | false =>
        repeat (first | refine gs ?_ | (refine ks ?_; intro w hM))
        exact out1 rfl ⟨rfl, rfl⟩
      | true =>
        repeat (first | refine gs ?_ | (refine ks ?_; intro w hM))
        simp only [ne_eq, e2]
        repeat (first | refine gs ?_ | (refine ks ?_; intro w hM))
        exact out1 rfl ⟨rfl, rfl⟩
    · rw [decide_eq_false (by omega : ¬ (c.toNat : Int) ≤ 126), decide_eq_false h2]
      repeat (first | refine gs ?_ | (refine ks ?_; intro w hM))
      exact out1 rfl ⟨rfl, rfl⟩
  · rw [decide_eq_false (by omega : ¬ (32 : Int) ≤ (c.toNat : Int)), decide_eq_false h1]
    repeat (first | refine gs ?_ | (refine ks ?_; intro w hM))
    exact out1 rfl ⟨rfl, rfl⟩
def hexI (c : UInt8) : Int := match hexv c with | some h => (h : Int) | none => -1
abbrev hexsB : List UInt8 := [48, 49, 50, 51, 52, 53, 54, 55, 56, 57, 97, 98, 99, 100, 101, 102]
theorem hexs_ix (c : UInt8) : Lib.indexByte hexsB c = hexI c := by
  have : ∀ n : Fin 256, Lib.indexByte hexsB (UInt8.ofNat n.1) = hexI (UInt8.ofNat n.1) := by decide +kernel
  have h := this ⟨c.toNat, UInt8.toNat_lt c⟩
  simpa using h
theorem hexI_cases (c : UInt8) : (∃ h, hexv c = some h ∧ hexI c = (h : Int) ∧ h < 16) ∨ (hexv c = none ∧ hexI c = -1) := by
  unfold hexI hexv
  split
  · left; exact ⟨_, rfl, rfl, by omega⟩
  split
  · left; exact ⟨_, rfl, rfl, by omega⟩
  · right; exact ⟨rfl, rfl⟩
/-- What a text's word hands back, wrong ones too. -/
def textV (s : List UInt8) : List UInt8 := if 2 ≤ s.length ∧ s.head? = some 39 ∧ s.getLast? = some 39 then (unqB (s.tail.dropLast)).getD [] else []
def TextR (s : List UInt8) (u : Value) : Prop := u = .tuple #[.string (bst (textV s)), .bool (textQ s).isSome]
theorem textV_of {s x : List UInt8} (h : textQ s = some x) : textV s = x := by
  unfold textQ at h
  unfold textV
  split at h
  · rename_i q
    rw [if_pos q]
    obtain ⟨y, hy, h2⟩ := Option.bind_eq_some_iff.1 h
    split at h2
    · injection h2 with h2
      rw [hy, h2]
      rfl
    · cases h2
  · cases h
def NoT (s : List UInt8) : Prop := textQ s = none ∧ textV s = []
theorem textR_none {s : List UInt8} (h : NoT s) : TextR s (.tuple #[.string (bst []), .bool false]) := by
  unfold TextR
  rw [h.1, h.2]
  rfl
theorem textQ_short {s : List UInt8} (h : s.length < 2) : NoT s := ⟨if_neg (by omega), if_neg (by omega)⟩
theorem textQ_first {s : List UInt8} {c : UInt8} (h : s[0]? = some c) (hc : c ≠ 39) : NoT s := by
  have : ¬ (2 ≤ s.length ∧ s.head? = some 39 ∧ s.getLast? = some 39) := fun q => by
    have := q.2.1
    rw [← List.head?_eq_getElem?] at h
    rw [h] at this
    exact hc (by simpa using this)
  exact ⟨if_neg this, if_neg this⟩
theorem textQ_last {s : List UInt8} {c : UInt8} (h : s[s.length - 1]? = some c) (hc : c ≠ 39) : NoT s := by
  have : ¬ (2 ≤ s.length ∧ s.head? = some 39 ∧ s.getLast? = some 39) := fun q => by
    have := q.2.2
    rw [List.getLast?_eq_getElem?, h] at this
    exact hc (by simpa using this)
  exact ⟨if_neg this, if_neg this⟩
theorem textQ_in {s : List UInt8} {c d : UInt8} (h2 : 2 ≤ s.length) (h : s[0]? = some c) (hc : c = 39) (hl : s[s.length - 1]? = some d) (hd : d = 39) : (textQ s = (unqB (s.tail.dropLast)).bind fun b => if b.length ≤ 256 then some b else none) ∧ textV s = (unqB (s.tail.dropLast)).getD [] := by
  have : 2 ≤ s.length ∧ s.head? = some 39 ∧ s.getLast? = some 39 := ⟨h2, by rw [List.head?_eq_getElem?, h, hc], by rw [List.getLast?_eq_getElem?, hl, hd]⟩
  exact ⟨if_pos this, if_pos this⟩
theorem textR_some {s b : List UInt8} (h : textQ s = (some b).bind fun b => if b.length ≤ 256 then some b else none) (hV : textV s = (some b).getD []) : TextR s (.tuple #[.string (bst b), .bool (decide ((b.length : Int) ≤ 256))]) := by
  unfold TextR
  rw [h, hV]
  simp only [Option.bind_some, Option.getD_some]
  by_cases q : b.length ≤ 256
  · rw [if_pos q, decide_eq_true (by omega)]; rfl
  · rw [if_neg q, decide_eq_false (by omega)]; rfl
theorem byte_of {h l : Nat} (hh : h < 16) (hl : l < 16) : IntKind.u8.wrap ((16 * h + l : Nat) : Int) = ((UInt8.ofNat (16 * h + l)).toNat : Int) := by
  have : (UInt8.ofNat (16 * h + l)).toNat = 16 * h + l := by rw [UInt8.toNat_ofNat']; omega
  rw [this]
  exact wrap_rng (lo := 0) (hi := 255) rfl (by omega) (by omega)
set_option maxHeartbeats 16000000 in
theorem unquote_any (s : List UInt8) (w0 : World) (hs : s.length ≤ 100000) :
    Calls Tryd.prog 19 #[.string (bst s)] w0 (Ret fun u w' => TextR s u ∧ Ch [] w0 w') := by
  have hM := Mem.start w0
  refine enter [.string (bst s), undef, undef, undef, undef, undef, undef, undef, undef, undef, undef, undef, undef, undef, undef, undef, undef, undef, undef, undef, undef, undef, undef, undef, undef, undef, undef, undef, undef, undef, undef, undef, undef, undef, undef, undef, undef, undef, undef, undef, undef, undef, undef, undef, undef, undef, undef, undef, undef, undef, undef, undef, undef, undef, undef, undef, undef, undef, undef, undef, undef, undef, undef, undef, undef, undef, undef, undef, undef, undef, undef, undef, undef, undef, undef, undef] Tryd.func19 rfl rfl ?_
  repeat (first | refine gs ?_ | (refine ks ?_; intro w hM))
  by_cases h2 : s.length < 2
  · rw [decide_eq_true (by omega : (s.length : Int) < 2)]
    repeat (first | refine gs ?_ | (refine ks ?_; intro w hM))
    refine c_condb rfl (fun _ => ?_) (fun h => by cases h)
    repeat (first | refine gs ?_ | (refine ks ?_; intro w hM))
    exact out2 rfl ⟨textR_none (textQ_short h2), hM.ch⟩
  rw [decide_eq_false (by omega : ¬ (s.length : Int) < 2)]
  obtain ⟨c, hc⟩ : ∃ c, s[0]? = some c := ⟨_, List.getElem?_eq_getElem (by omega)⟩
  obtain ⟨d, hd⟩ : ∃ d, s[s.length - 1]? = some d := ⟨_, List.getElem?_eq_getElem (by omega)⟩
  have hd2 : s[((s.length : Int) - 1).toNat]? = some d := by rw [show ((s.length : Int) - 1).toNat = s.length - 1 by omega]; exact hd
  repeat (first | refine gs ?_ | (refine ks ?_; intro w hM))
  by_cases hc39 : c = 39
  rotate_left
  · rw [decide_eq_true (show ¬ ((c.toNat : Int) = 39) from fun h => hc39 (UInt8.toNat_inj.1 (by show c.toNat = 39; omega)))]
    repeat (first | refine gs ?_ | (refine ks ?_; intro w hM))
    refine c_condb rfl (fun _ => ?_) (fun h => by cases h)
    repeat (first | refine gs ?_ | (refine ks ?_; intro w hM))
    exact out2 rfl ⟨textR_none (textQ_first hc hc39), hM.ch⟩
  rw [decide_eq_false (show ¬ ¬ ((c.toNat : Int) = 39) by rw [hc39]; simp)]
  repeat (first | refine gs ?_ | (refine ks ?_; intro w hM))
  by_cases hd39 : d = 39
  rotate_left
  · rw [decide_eq_true (show ¬ ((d.toNat : Int) = 39) from fun h => hd39 (UInt8.toNat_inj.1 (by show d.toNat = 39; omega)))]
    refine c_condb rfl (fun _ => ?_) (fun h => by cases h)
    repeat (first | refine gs ?_ | (refine ks ?_; intro w hM))
    exact out2 rfl ⟨textR_none (textQ_last hd hd39), hM.ch⟩
  rw [decide_eq_false (show ¬ ¬ ((d.toNat : Int) = 39) by rw [hd39]; simp)]
  refine c_condb rfl (fun h => by cases h) (fun _ => ?_)
  obtain ⟨hin, hinV⟩ := textQ_in (by omega) hc hc39 hd hd39
  clear hc hd hd2
  repeat (first | refine gs ?_ | (refine ks ?_; intro w hM))
  have e0 : (s.take ((s.length : Int) - 1).toNat).drop (1 : Int).toNat = s.tail.dropLast := by
    rw [show ((s.length : Int) - 1).toNat = s.length - 1 by omega, List.dropLast_eq_take, List.length_tail, List.drop_take]
    simp
  rw [e0]
  have hil : s.tail.dropLast.length ≤ s.length := by simp; omega
  have hM := hM.nilRow eU8 5
  
  refine c_loop (fun n l w => ∃ (cur acc : List UInt8) (v4 : Value), (∃ jj : Nat → Value, l = [jj 0, jj 1, jj 2, jj 3, v4, .string (bst cur), jj 6, jj 7, jj 8, jj 9, jj 10, jj 11, jj 12, jj 13, jj 14, jj 15, jj 16, jj 17, jj 18, jj 19, jj 20, jj 21, jj 22, jj 23, jj 24, jj 25, jj 26, jj 27, jj 28, jj 29, jj 30, jj 31, jj 32, jj 33, jj 34, jj 35, jj 36, jj 37, jj 38, jj 39, jj 40, jj 41, jj 42, jj 43, jj 44, jj 45, jj 46, jj 47, jj 48, jj 49, jj 50, jj 51, jj 52, jj 53, jj 54, jj 55, jj 56, jj 57, jj 58, jj 59, jj 60, jj 61, jj 62, jj 63, jj 64, jj 65, jj 66, jj 67, jj 68, jj 69, jj 70, jj 71, jj 72, jj 73, jj 74, jj 75]) ∧ cur.length = n ∧ acc.length + cur.length ≤ s.length ∧ unqB s.tail.dropLast = (unqB cur).map (acc ++ ·) ∧ Mem [] w0 w [.row eU8 5 v4 acc]) _
    ⟨s.tail.dropLast, [], .slice none 0 0, exj rfl, rfl, by simpa using hil, by simp, hM⟩ ?_
  clear hM e0 hil
  rintro n l w ⟨cur, acc, v4, ⟨jj, rfl⟩, hn, hal, hacc, hM⟩
  repeat (first | refine gs ?_ | (refine ks ?_; intro w hM))
  cases cur with
  | nil =>
    repeat (first | refine gs ?_ | (refine ks ?_; intro w hM))
    refine c_condb rfl (fun h => by cases h) (fun _ => ?_)
    rw [show unqB [] = some [] from rfl] at hacc
    simp only [Option.map_some, List.append_nil] at hacc
    rw [hacc] at hin hinV
    simp only [List.length_nil, Nat.add_zero] at hal
    have hR := hM.rowRdO (en := eU8) (xs := acc) (v := v4) (by (repeat constructor))
    obtain ⟨A4, c4, rfl⟩ := hR.form
    repeat (first | refine gs ?_ | (refine ks ?_; intro w hM))
    (try ((with_reducible apply is_gd); first | refine gt ?_ | refine gf ?_ | refine gu ?_)); refine wl_val (r_b2s hR) ?_
    repeat (first | refine gs ?_ | (refine ks ?_; intro w hM))
    exact out2 rfl ⟨textR_some hin hinV, hM.ch⟩
  | cons a t =>
  simp only [List.length_cons] at hn hal
  rw [decide_eq_false (by simp : ¬ a :: t = [])]
  refine c_condb rfl (fun _ => ?_) (fun h => by cases h)
  repeat (first | refine gs ?_ | (refine ks ?_; intro w hM))
  refine kcs (itself_any a w) ?_
  cases ha : selfB a with
  | true =>
    rw [unq_self ha, Option.map_map] at hacc
    repeat (first | refine gs ?_ | (refine ks ?_; intro w hM))
    refine c_condb rfl (fun _ => ?_) (fun h => by cases h)
    repeat (first | refine gsb ?_ | (refine ks ?_; intro w hM))
    refine c_ordY ([4], [5, 6]) [] (by kernel_rfl) (by kernel_rfl) (by kernel_rfl) (fun w hc hs => ?_)
    have hM := hM.call hc
    (first | refine yn 0 rfl ?_ | refine ynt 0 rfl ?_ | refine ynff 0 rfl ?_); (first | refine yn 1 rfl ?_ | refine ynt 1 rfl ?_ | refine ynff 1 rfl ?_)
    refine ynp 2 rfl (by kernel_rfl) (by kernel_rfl) (fun _ => r_idxS (s := a :: t) (c := a) rfl rfl (by omega) rfl) rfl ?_
    (first | refine yn 5 rfl ?_ | refine ynt 5 rfl ?_ | refine ynff 5 rfl ?_)
    refine ynp 6 rfl (by kernel_rfl) (by kernel_rfl) (fun _ => r_subL (s := a :: t) rfl rfl (by omega) (by simp only [List.length_cons]; omega)) rfl ?_
    refine yk1 3 hM (by kernel_rfl) rfl (fun w h0 hM => ?_)
    refine kbsC (en := eU8) (vs := [u8v a]) [a] hM (fun w b hc hM => ?_) (hm := by intro v q; simp only [List.mem_singleton] at q; subst q; rfl)
    refine x_wy (.inl (hc.gy h0)) rfl ?_
    refine yk1 4 hM (by kernel_rfl) rfl (fun w h0 hM => ?_)
    have hR1 := hM.rowRdO (en := eU8) (v := .slice (some ⟨b, 0, none⟩) 1 1) (xs := [a]) (by (repeat constructor))
    refine kapC (en := eU8) (v := v4) (xs := acc) (ys := [a]) hM hR1 (fun v7 w hs hM => ?_) (hb := by simp; omega) (h63 := by simp; omega)
    refine x_wy (.inr ⟨by decide, Nat.le_trans h0 hs⟩) rfl ?_
    (first | refine yn 7 rfl ?_ | refine ynt 7 rfl ?_ | refine ynff 7 rfl ?_); (first | refine yn 8 rfl ?_ | refine ynt 8 rfl ?_ | refine ynff 8 rfl ?_)
    refine wy_done (by kernel_rfl) (fun w hc => ?_)
    have hM := hM.call hc
    repeat (first | refine gs ?_ | (refine ks ?_; intro w hM))
    exact x_goes (n - 1) rfl (by omega) ⟨t, acc ++ [a], v7, exj rfl, by omega, by rw [List.length_append, List.length_singleton]; omega,
      by rw [hacc]; congr 1; funext z; simp, hM.sub (by (repeat (first | exact Go.Proofs.E.Sub.refl _ | exact Go.Proofs.E.Sub.nil | (apply Go.Proofs.E.Sub.cons; (repeat (first | exact Go.Proofs.E.Pick.here | apply Go.Proofs.E.Pick.there))) | apply Go.Proofs.E.Sub.tail)))⟩
  | false =>
    repeat (first | refine gs ?_ | (refine ks ?_; intro w hM))
    refine c_condb rfl (fun h => by cases h) (fun _ => ?_)
    repeat (first | refine gs ?_ | (refine ks ?_; intro w hM))
    by_cases ha37 : a = 37
    rotate_left
    · rw [decide_eq_true (show ¬ ((a.toNat : Int) = 37) from fun h => ha37 (UInt8.toNat_inj.1 (by show a.toNat = 37; omega)))]
      repeat (first | refine gs ?_ | (refine ks ?_; intro w hM))
      refine c_condb rfl (fun _ => ?_) (fun h => by cases h)
      repeat (first | refine gs ?_ | (refine ks ?_; intro w hM))
      rw [unq_short ha (.inl ha37)] at hacc
      exact out2 rfl ⟨textR_none ⟨by rw [hin, hacc]; rfl, by rw [hinV, hacc]; rfl⟩, hM.ch⟩
    rw [decide_eq_false (show ¬ ¬ ((a.toNat : Int) = 37) by rw [ha37]; simp)]
    repeat (first | refine gs ?_ | (refine ks ?_; intro w hM))
    by_cases ht2 : t.length < 2
    · rw [decide_eq_true (by simp only [List.length_cons]; omega : (((a :: t).length : Nat) : Int) < 3)]
      repeat (first | refine gs ?_ | (refine ks ?_; intro w hM))
      refine c_condb rfl (fun _ => ?_) (fun h => by cases h)
      repeat (first | refine gs ?_ | (refine ks ?_; intro w hM))
      rw [unq_short ha (.inr ht2)] at hacc
      exact out2 rfl ⟨textR_none ⟨by rw [hin, hacc]; rfl, by rw [hinV, hacc]; rfl⟩, hM.ch⟩
    rw [decide_eq_false (by simp only [List.length_cons]; omega : ¬ (((a :: t).length : Nat) : Int) < 3)]
    repeat (first | refine gs ?_ | (refine ks ?_; intro w hM))
    refine c_condb rfl (fun h => by cases h) (fun _ => ?_)
    obtain ⟨b1, b2, t, rfl⟩ : ∃ b1 b2 t', t = b1 :: b2 :: t' := by
      match t, ht2 with
      | b1 :: b2 :: t', _ => exact ⟨b1, b2, t', rfl⟩
      | [], h => exact absurd (by simp) h
      | [_], h => exact absurd (by simp) h
    rw [ha37, unq_hex] at hacc
    simp only [List.length_cons] at hn hal
    repeat (first | refine gsb ?_ | (refine ks ?_; intro w hM))
    refine kdr hM (by kernel_rfl) (by kernel_rfl) (fun w hM => ?_)
    repeat (first | ((with_reducible apply is_ldg); first | refine kldg hM ?_ | refine kldwg hM ?_) | ((with_reducible apply is_sg); (first | refine ssg ?_ | refine sgu ?_)) | ((with_reducible apply is_gg); first | refine gtg ?_ | refine gfg ?_ | refine gug ?_) | ((with_reducible apply is_eg); refine eg ?_))
    refine kcag hM (v := .int .i64 (hexI b1)) (vs := [.string (bst hexsB), u8v b1]) (fun w1 hM => (ixb_any hexsB b1 w1).mono fun e w' ⟨u, he, hu, hw⟩ => ⟨u, he, by rw [hu, hexs_ix], by rw [hw]; exact Ch.refl _ _⟩) ?_
    repeat (first | ((with_reducible apply is_ldg); first | refine kldg hM ?_ | refine kldwg hM ?_) | ((with_reducible apply is_sg); (first | refine ssg ?_ | refine sgu ?_)) | ((with_reducible apply is_gg); first | refine gtg ?_ | refine gfg ?_ | refine gug ?_) | ((with_reducible apply is_eg); refine eg ?_))
    refine kcag hM (v := .int .i64 (hexI b2)) (vs := [.string (bst hexsB), u8v b2]) (fun w1 hM => (ixb_any hexsB b2 w1).mono fun e w' ⟨u, he, hu, hw⟩ => ⟨u, he, by rw [hu, hexs_ix], by rw [hw]; exact Ch.refl _ _⟩) ?_
    repeat (first | ((with_reducible apply is_ldg); first | refine kldg hM ?_ | refine kldwg hM ?_) | ((with_reducible apply is_sg); (first | refine ssg ?_ | refine sgu ?_)) | ((with_reducible apply is_gg); first | refine gtg ?_ | refine gfg ?_ | refine gug ?_) | ((with_reducible apply is_eg); refine eg ?_))
    (intro w hc; have hM := hM.call hc)
    repeat (first | refine gs ?_ | (refine ks ?_; intro w hM))
    rcases hexI_cases b1 with ⟨h1, e1, g1, l1⟩ | ⟨e1, g1⟩
    rotate_left
    · rw [g1]
      repeat (first | refine gs ?_ | (refine ks ?_; intro w hM))
      refine c_condb rfl (fun _ => ?_) (fun h => by cases h)
      repeat (first | refine gs ?_ | (refine ks ?_; intro w hM))
      rw [e1] at hacc
      exact out2 rfl ⟨textR_none ⟨by rw [hin, hacc]; rfl, by rw [hinV, hacc]; rfl⟩, hM.ch⟩
    rw [g1, decide_eq_false (by omega : ¬ (h1 : Int) < 0)]
    repeat (first | refine gs ?_ | (refine ks ?_; intro w hM))
    rcases hexI_cases b2 with ⟨h2, e2, g2, l2⟩ | ⟨e2, g2⟩
    rotate_left
    · rw [g2]
      refine c_condb rfl (fun _ => ?_) (fun h => by cases h)
      repeat (first | refine gs ?_ | (refine ks ?_; intro w hM))
      rw [e1, e2] at hacc
      exact out2 rfl ⟨textR_none ⟨by rw [hin, hacc]; rfl, by rw [hinV, hacc]; rfl⟩, hM.ch⟩
    rw [g2, decide_eq_false (by omega : ¬ (h2 : Int) < 0)]
    refine c_condb rfl (fun h => by cases h) (fun _ => ?_)
    rw [e1, e2] at hacc
    simp only [Option.map_map] at hacc
    repeat (first | refine gsb ?_ | (refine ks ?_; intro w hM))
    refine c_ordY ([7], [8, 9]) [] (by kernel_rfl) (by kernel_rfl) (by kernel_rfl) (fun w hc hs => ?_)
    have hM := hM.call hc
    (first | refine yn 0 rfl ?_ | refine ynt 0 rfl ?_ | refine ynff 0 rfl ?_); (first | refine yn 1 rfl ?_ | refine ynt 1 rfl ?_ | refine ynff 1 rfl ?_)
    refine ynp 2 rfl (by kernel_rfl) (by kernel_rfl) (fun _ => r_shl4 (a := h1) rfl rfl l1) rfl ?_
    (first | refine yn 3 rfl ?_ | refine ynt 3 rfl ?_ | refine ynff 3 rfl ?_)
    refine ynp 4 rfl (by kernel_rfl) (by kernel_rfl) (fun _ => r_or16 (a := h1) (b := h2) rfl rfl l1 l2) rfl ?_
    refine ynp 5 rfl (by kernel_rfl) (by kernel_rfl) (v := u8v (UInt8.ofNat (16 * h1 + h2))) (fun _ => (r_conv rfl).trans (by rw [byte_of l1 l2]; rfl)) rfl ?_
    (first | refine yn 8 rfl ?_ | refine ynt 8 rfl ?_ | refine ynff 8 rfl ?_)
    refine ynp 9 rfl (by kernel_rfl) (by kernel_rfl) (fun _ => r_subL (s := a :: b1 :: b2 :: t) rfl rfl (by omega) (by simp only [List.length_cons]; omega)) rfl ?_
    refine yk1 6 hM (by kernel_rfl) rfl (fun w h0 hM => ?_)
    refine kbsC (en := eU8) (vs := [u8v (UInt8.ofNat (16 * h1 + h2))]) [UInt8.ofNat (16 * h1 + h2)] hM (fun w b hc hM => ?_) (hm := by intro v q; simp only [List.mem_singleton] at q; subst q; rfl)
    refine x_wy (.inl (hc.gy h0)) rfl ?_
    refine yk1 7 hM (by kernel_rfl) rfl (fun w h0 hM => ?_)
    have hR1 := hM.rowRdO (en := eU8) (v := .slice (some ⟨b, 0, none⟩) 1 1) (xs := [UInt8.ofNat (16 * h1 + h2)]) (by (repeat constructor))
    refine kapC (en := eU8) (v := v4) (xs := acc) (ys := [UInt8.ofNat (16 * h1 + h2)]) hM hR1 (fun v7 w hs hM => ?_) (hb := by simp; omega) (h63 := by simp; omega)
    refine x_wy (.inr ⟨by decide, Nat.le_trans h0 hs⟩) rfl ?_
    (first | refine yn 10 rfl ?_ | refine ynt 10 rfl ?_ | refine ynff 10 rfl ?_); (first | refine yn 11 rfl ?_ | refine ynt 11 rfl ?_ | refine ynff 11 rfl ?_)
    refine wy_done (by kernel_rfl) (fun w hc => ?_)
    have hM := hM.call hc
    repeat (first | refine gs ?_ | (refine ks ?_; intro w hM))
    exact x_goes (n - 3) rfl (by omega) ⟨t, acc ++ [UInt8.ofNat (16 * h1 + h2)], v7, exj rfl, by omega, by rw [List.length_append, List.length_singleton]; omega,
      by rw [hacc]; congr 1; funext z; simp, hM.sub (by (repeat (first | exact Go.Proofs.E.Sub.refl _ | exact Go.Proofs.E.Sub.nil | (apply Go.Proofs.E.Sub.cons; (repeat (first | exact Go.Proofs.E.Pick.here | apply Go.Proofs.E.Pick.there))) | apply Go.Proofs.E.Sub.tail)))⟩
end Go.Proofs.YtoimhmphhffelaaDoor
set_option linter.unusedVariables false
set_option linter.unusedSimpArgs false
namespace Go.Proofs.E
open Go Go.RowKit
section
variable {P : Program} {ops : Array Oper} {Q : Exit → Act → World → Prop} {rest : List Oper} {l l' : List Value} {O : List Nat} {w0 w : World} {L L' : List As} {k zz : Nat} {listed : Array Bool} {T : TypeId} {pos : String} {after : Array Edge}
/-- A call of a function value that hands back one value. -/
theorem kcdg {d : Option Nat} {x : Operand} {f : FuncId} {fn : Func} {args : List Operand} {tys : Array TypeId} {lb : Array Value} {vs : List Value} {v : Value} [hf : Fun P f fn] (hM : Mem O w0 w L)
    (hc : ∀ w1, Mem O w0 w1 L → Calls P f (vs.toArray ++ lb) w1 (Ret fun u w2 => u = v ∧ Ch [] w1 w2))
    (h : wpLexG P ops (Ch []) Q zz rest (k + 1) (listed.setIfInBounds k true) (fr l') w) (hx : ev l x = .func (.func f) #[] lb := by exact rfl)
    (ha : args.map (ev l) = vs := by first | (dsimp only [List.map, List.set, Go.Proofs.E.set1, Go.Proofs.E.ev, Go.Proofs.E.nth]; done) | exact rfl)
    (hl : set1 l d v = l' := by first | (dsimp only [List.set, Go.Proofs.E.set1, Go.Proofs.E.ev, Go.Proofs.E.nth]; done) | exact rfl) :
    wpLexG P ops (Ch []) Q zz ({ dst := d, op := .call { callee := .value x, args := args.toArray, argTypes := tys }, type := T, pos := pos, after := after, guard := none } :: rest) k listed (fr l) w := by
  subst hl ha
  refine .inl ⟨v, .inl ⟨by simp [Region.wanted], fun w1 hG => ?_⟩, ?_⟩
  · unfold Oper.quietAt
    rw [exec_eq, eval_fr, r_calld hx]
    exact ⟨rfl, (hc w1 (hM.call hG)).mono fun e w2 ⟨u, h1, h2, h3⟩ => ⟨by rw [h1, h2], h3⟩⟩
  · show wpLexG _ _ _ _ _ _ _ _ ((fr l).put d v) w
    rw [put_set1]
    exact h
end
end Go.Proofs.E
namespace Go.Proofs.YtoimhmphhffelaaDoor
open Go Go.RowKit Go.Proofs.E
attribute [local irreducible] Go.wpList Go.Code.wp Go.Proofs.E.exec Go.Proofs.E.wpLexG
abbrev rdC (vl : Value) (s : PS) : List Value := [vl, .int .i64 (s.1 : Int), .bool s.2]
def seeS (wo : List (List UInt8)) (x : List UInt8) (s : PS) : PS := if qSees wo x s = true then (s.1 + 1, s.2) else s
theorem see_none {wo : List (List UInt8)} {x : List UInt8} {s : PS} (h : s.2 = true ∨ wo.length ≤ s.1) : qSees wo x s = false := by
  unfold qSees
  rcases h with h | h
  · rw [h]; rfl
  · rw [List.getElem?_eq_none h]
    simp
theorem see_at {wo : List (List UInt8)} {x y : List UInt8} {i : Nat} (h : wo[i]? = some y) : qSees wo x (i, false) = decide (y = x) := by
  unfold qSees
  rw [h]
  simp
set_option maxHeartbeats 8000000 in
theorem sees_any (bR : Nat) (vl : Value) (wo : List (List UInt8)) (s : PS) (x : List UInt8) (w0 : World) (hB : Blk w0 bR (rdC vl s) 39) (hW : (Ty.enc eBs).Rd [bR] w0 vl wo) (hs : s.1 ≤ wo.length) (hl : wo.length ≤ 100000) :
    Calls Tryd.prog 14 #[.pointer (some ⟨bR, 0, none⟩), .string (bst x)] w0 (Ret fun u w' => u = .bool (qSees wo x s) ∧ Ch [bR] w0 w' ∧ Blk w' bR (rdC vl (seeS wo x s)) 39) := by
  obtain ⟨i, bad⟩ := s
  simp only at hs
  have hM := Mem.take hB
  obtain ⟨A, c, rfl⟩ := hW.form
  refine enter [.pointer (some ⟨bR, 0, none⟩), .string (bst x), undef, undef, undef, undef, undef, undef, undef, undef, undef, undef, undef, undef, undef, undef, undef, undef, undef, undef, undef, undef, undef, undef, undef, undef, undef, undef, undef, undef, undef, undef, undef, undef, undef, undef, undef, undef, undef, undef, undef, undef] Tryd.func14 rfl rfl ?_
  repeat (first | refine gs ?_ | (refine ks ?_; intro w hM))
  refine kdr hM (by kernel_rfl) (by kernel_rfl) (fun w hM => ?_)
  repeat (first | ((with_reducible apply is_ldg); first | refine kldg hM ?_ | refine kldwg hM ?_) | ((with_reducible apply is_sg); (first | refine ssg ?_ | refine sgu ?_)) | ((with_reducible apply is_gg); first | refine gtg ?_ | refine gfg ?_ | refine gug ?_) | ((with_reducible apply is_eg); refine eg ?_))
  cases bad with
  | true =>
    repeat (first | ((with_reducible apply is_ldg); first | refine kldg hM ?_ | refine kldwg hM ?_) | ((with_reducible apply is_sg); (first | refine ssg ?_ | refine sgu ?_)) | ((with_reducible apply is_gg); first | refine gtg ?_ | refine gfg ?_ | refine gug ?_) | ((with_reducible apply is_eg); refine eg ?_))
    (intro w hc; have hM := hM.call hc)
    repeat (first | refine gs ?_ | (refine ks ?_; intro w hM))
    refine c_condb rfl (fun _ => ?_) (fun h => by cases h)
    repeat (first | refine gs ?_ | (refine ks ?_; intro w hM))
    have e := see_none (wo := wo) (x := x) (s := (i, true)) (.inl rfl)
    exact out1 rfl ⟨by rw [e]; rfl, hM.ch, by unfold seeS; rw [e]; exact hM.blk (b := bR) (by (repeat constructor))⟩
  | false =>
  repeat (first | ((with_reducible apply is_ldg); first | refine kldg hM ?_ | refine kldwg hM ?_) | ((with_reducible apply is_sg); (first | refine ssg ?_ | refine sgu ?_)) | ((with_reducible apply is_gg); first | refine gtg ?_ | refine gfg ?_ | refine gug ?_) | ((with_reducible apply is_eg); refine eg ?_))
  by_cases hi : i < wo.length
  rotate_left
  · rw [decide_eq_true (by omega : _)]
    repeat (first | ((with_reducible apply is_ldg); first | refine kldg hM ?_ | refine kldwg hM ?_) | ((with_reducible apply is_sg); (first | refine ssg ?_ | refine sgu ?_)) | ((with_reducible apply is_gg); first | refine gtg ?_ | refine gfg ?_ | refine gug ?_) | ((with_reducible apply is_eg); refine eg ?_))
    (intro w hc; have hM := hM.call hc)
    repeat (first | refine gs ?_ | (refine ks ?_; intro w hM))
    refine c_condb rfl (fun _ => ?_) (fun h => by cases h)
    repeat (first | refine gs ?_ | (refine ks ?_; intro w hM))
    have e := see_none (wo := wo) (x := x) (s := (i, false)) (.inr (by simp only; omega))
    exact out1 rfl ⟨by rw [e]; rfl, hM.ch, by unfold seeS; rw [e]; exact hM.blk (b := bR) (by (repeat constructor))⟩
  rw [decide_eq_false (by omega)]
  repeat (first | ((with_reducible apply is_ldg); first | refine kldg hM ?_ | refine kldwg hM ?_) | ((with_reducible apply is_sg); (first | refine ssg ?_ | refine sgu ?_)) | ((with_reducible apply is_gg); first | refine gtg ?_ | refine gfg ?_ | refine gug ?_) | ((with_reducible apply is_eg); refine eg ?_))
  (try ((with_reducible apply is_gg); first | refine gtg ?_ | refine gfg ?_ | refine gug ?_)); refine kixg hW (fun o1 o2 y hy hA => ?_)
  rw [Int.toNat_natCast] at hy
  (try ((with_reducible apply is_gg); first | refine gtg ?_ | refine gfg ?_ | refine gug ?_)); refine katg hM hA ?_
  repeat (first | ((with_reducible apply is_ldg); first | refine kldg hM ?_ | refine kldwg hM ?_) | ((with_reducible apply is_sg); (first | refine ssg ?_ | refine sgu ?_)) | ((with_reducible apply is_gg); first | refine gtg ?_ | refine gfg ?_ | refine gug ?_) | ((with_reducible apply is_eg); refine eg ?_))
  (intro w hc; have hM := hM.call hc)
  have e := see_at (x := x) hy
  repeat (first | refine gs ?_ | (refine ks ?_; intro w hM))
  by_cases hxy : y = x
  · rw [decide_eq_true hxy] at e ⊢
    refine c_condb rfl (fun h => by cases h) (fun _ => ?_)
    repeat (first | refine gs ?_ | (refine ks ?_; intro w hM))
    exact out1 rfl ⟨by rw [e]; rfl, hM.ch, by unfold seeS; rw [e]; exact hM.blk (b := bR) (by (repeat constructor))⟩
  · rw [decide_eq_false hxy] at e ⊢
    refine c_condb rfl (fun _ => ?_) (fun h => by cases h)
    repeat (first | refine gs ?_ | (refine ks ?_; intro w hM))
    exact out1 rfl ⟨by rw [e]; rfl, hM.ch, by unfold seeS; rw [e]; exact hM.blk (b := bR) (by (repeat constructor))⟩
theorem get_none {α : Type} {wo : List (List UInt8)} {f : List UInt8 → Option α} {s : PS} (h : s.2 = true ∨ wo.length ≤ s.1) : qGet wo f s = none := by
  unfold qGet
  rcases h with h | h
  · rw [if_pos h]
  · rw [List.getElem?_eq_none h]
    split <;> rfl
theorem get_at {α : Type} {wo : List (List UInt8)} {f : List UInt8 → Option α} {y : List UInt8} {i : Nat} (h : wo[i]? = some y) : qGet wo f (i, false) = f y := by
  unfold qGet
  rw [if_neg (by simp), h]
  rfl
def optV {α : Type} (vf : α → Value) (z : Value) (o : Option α) : Value := match o with | some a => vf a | none => z
set_option maxHeartbeats 8000000 in
theorem nexti_any {α : Type} (f : List UInt8 → Option α) (vf : α → Value) (fv : List UInt8 → Value) (g : FuncId) (fn : Func) (lb : Array Value) [hF : Fun Tryd.prog g fn] (bR : Nat) (vl : Value) (wo : List (List UInt8)) (s : PS) (w0 : World) (hB : Blk w0 bR (rdC vl s) 39) (hW : (Ty.enc eBs).Rd [bR] w0 vl wo) (hs : s.1 ≤ wo.length) (hl : wo.length ≤ 100000)
    (hf : ∀ (x : List UInt8) (w1 : World), x ∈ wo → Ch [bR] w0 w1 → Calls Tryd.prog g (#[.string (bst x)] ++ lb) w1 (Ret fun u w2 => u = .tuple #[fv x, .bool (f x).isSome] ∧ Ch [] w1 w2)) (hv : ∀ x a, f x = some a → fv x = vf a) :
    Calls Tryd.prog 12 #[.pointer (some ⟨bR, 0, none⟩), .func (.func g) #[] lb] w0 (Ret fun u w' => u = optV vf (.int .i64 0) (qGet wo f s) ∧ Ch [bR] w0 w' ∧ Blk w' bR (rdC vl (qAft (qGet wo f s) s)) 39) := by
  obtain ⟨i, bad⟩ := s
  simp only at hs
  have hM := Mem.take hB
  obtain ⟨A, c, rfl⟩ := hW.form
  refine enter [.pointer (some ⟨bR, 0, none⟩), .func (.func g) #[] lb, undef, undef, undef, undef, undef, undef, undef, undef, undef, undef, undef, undef, undef, undef, undef, undef, undef, undef, undef, undef, undef, undef, undef, undef, undef, undef, undef, undef, undef, undef, undef, undef, undef, undef, undef, undef, undef, undef, undef, undef, undef, undef, undef, undef, undef, undef, undef, undef, undef, undef, undef, undef, undef, undef, undef] Tryd.func12 rfl rfl ?_
  repeat (first | refine gs ?_ | (refine ks ?_; intro w hM))
  refine kdr hM (by kernel_rfl) (by kernel_rfl) (fun w hM => ?_)
  repeat (first | ((with_reducible apply is_ldg); first | refine kldg hM ?_ | refine kldwg hM ?_) | ((with_reducible apply is_sg); (first | refine ssg ?_ | refine sgu ?_)) | ((with_reducible apply is_gg); first | refine gtg ?_ | refine gfg ?_ | refine gug ?_) | ((with_reducible apply is_eg); refine eg ?_))
  cases bad with
  | true =>
    repeat (first | ((with_reducible apply is_ldg); first | refine kldg hM ?_ | refine kldwg hM ?_) | ((with_reducible apply is_sg); (first | refine ssg ?_ | refine sgu ?_)) | ((with_reducible apply is_gg); first | refine gtg ?_ | refine gfg ?_ | refine gug ?_) | ((with_reducible apply is_eg); refine eg ?_))
    (intro w hc; have hM := hM.call hc)
    repeat (first | refine gs ?_ | (refine ks ?_; intro w hM))
    refine c_condb rfl (fun _ => ?_) (fun h => by cases h)
    repeat (first | refine gs ?_ | (refine ks ?_; intro w hM))
    have e := get_none (wo := wo) (f := f) (s := (i, true)) (.inl rfl)
    exact out1 rfl ⟨by rw [e]; rfl, hM.ch, by rw [e]; exact hM.blk (b := bR) (by (repeat constructor))⟩
  | false =>
  repeat (first | ((with_reducible apply is_ldg); first | refine kldg hM ?_ | refine kldwg hM ?_) | ((with_reducible apply is_sg); (first | refine ssg ?_ | refine sgu ?_)) | ((with_reducible apply is_gg); first | refine gtg ?_ | refine gfg ?_ | refine gug ?_) | ((with_reducible apply is_eg); refine eg ?_))
  by_cases hi : i < wo.length
  rotate_left
  · rw [decide_eq_true (by omega : _)]
    repeat (first | ((with_reducible apply is_ldg); first | refine kldg hM ?_ | refine kldwg hM ?_) | ((with_reducible apply is_sg); (first | refine ssg ?_ | refine sgu ?_)) | ((with_reducible apply is_gg); first | refine gtg ?_ | refine gfg ?_ | refine gug ?_) | ((with_reducible apply is_eg); refine eg ?_))
    (intro w hc; have hM := hM.call hc)
    repeat (first | refine gs ?_ | (refine ks ?_; intro w hM))
    refine c_condb rfl (fun _ => ?_) (fun h => by cases h)
    repeat (first | refine gs ?_ | (refine ks ?_; intro w hM))
    have e := get_none (wo := wo) (f := f) (s := (i, false)) (.inr (by simp only; omega))
    exact out1 rfl ⟨by rw [e]; rfl, hM.ch, by rw [e]; exact hM.blk (b := bR) (by (repeat constructor))⟩
  rw [decide_eq_false (by omega)]
  repeat (first | ((with_reducible apply is_ldg); first | refine kldg hM ?_ | refine kldwg hM ?_) | ((with_reducible apply is_sg); (first | refine ssg ?_ | refine sgu ?_)) | ((with_reducible apply is_gg); first | refine gtg ?_ | refine gfg ?_ | refine gug ?_) | ((with_reducible apply is_eg); refine eg ?_))
  (intro w hc; have hM := hM.call hc)
  repeat (first | refine gs ?_ | (refine ks ?_; intro w hM))
  refine c_condb rfl (fun h => by cases h) (fun _ => ?_)
  repeat (first | refine gs ?_ | (refine ks ?_; intro w hM))
  refine kdr hM (by kernel_rfl) (by kernel_rfl) (fun w hM => ?_)
  repeat (first | ((with_reducible apply is_ldg); first | refine kldg hM ?_ | refine kldwg hM ?_) | ((with_reducible apply is_sg); (first | refine ssg ?_ | refine sgu ?_)) | ((with_reducible apply is_gg); first | refine gtg ?_ | refine gfg ?_ | refine gug ?_) | ((with_reducible apply is_eg); refine eg ?_))
  refine kixg hW (fun o1 o2 y hy hA => ?_)
  rw [Int.toNat_natCast] at hy
  refine katg hM hA ?_
  refine kcdg (v := .tuple #[fv y, .bool (f y).isSome]) (vs := [.string (bst y)]) hM (fun w1 hM => hf y w1 (List.mem_of_getElem? hy) hM.ch) ?_
  repeat (first | ((with_reducible apply is_ldg); first | refine kldg hM ?_ | refine kldwg hM ?_) | ((with_reducible apply is_sg); (first | refine ssg ?_ | refine sgu ?_)) | ((with_reducible apply is_gg); first | refine gtg ?_ | refine gfg ?_ | refine gug ?_) | ((with_reducible apply is_eg); refine eg ?_))
  (intro w hc; have hM := hM.call hc)
  have e := get_at (f := f) hy
  repeat (first | refine gs ?_ | (refine ks ?_; intro w hM))
  cases ho : f y with
  | none =>
    rw [ho] at e
    rw [show (none : Option α).isSome = false from rfl]
    repeat (first | refine gs ?_ | (refine ks ?_; intro w hM))
    refine c_condb rfl (fun _ => ?_) (fun h => by cases h)
    repeat (first | refine gs ?_ | (refine ks ?_; intro w hM))
    exact out1 rfl ⟨by rw [e]; rfl, hM.ch, by rw [e]; exact hM.blk (b := bR) (by (repeat constructor))⟩
  | some a =>
    rw [ho] at e
    have hva := hv y a ho
    rw [show (some a : Option α).isSome = true from rfl]
    repeat (first | refine gs ?_ | (refine ks ?_; intro w hM))
    refine c_condb rfl (fun h => by cases h) (fun _ => ?_)
    repeat (first | refine gs ?_ | (refine ks ?_; intro w hM))
    exact out1 rfl ⟨by rw [e]; exact hva, hM.ch, by rw [e]; exact hM.blk (b := bR) (by (repeat constructor))⟩
set_option maxHeartbeats 8000000 in
theorem nexts_any {α : Type} (f : List UInt8 → Option α) (vf : α → Value) (fv : List UInt8 → Value) (g : FuncId) (fn : Func) (lb : Array Value) [hF : Fun Tryd.prog g fn] (bR : Nat) (vl : Value) (wo : List (List UInt8)) (s : PS) (w0 : World) (hB : Blk w0 bR (rdC vl s) 39) (hW : (Ty.enc eBs).Rd [bR] w0 vl wo) (hs : s.1 ≤ wo.length) (hl : wo.length ≤ 100000)
    (hf : ∀ (x : List UInt8) (w1 : World), x ∈ wo → Ch [bR] w0 w1 → Calls Tryd.prog g (#[.string (bst x)] ++ lb) w1 (Ret fun u w2 => u = .tuple #[fv x, .bool (f x).isSome] ∧ Ch [] w1 w2)) (hv : ∀ x a, f x = some a → fv x = vf a) :
    Calls Tryd.prog 18 #[.pointer (some ⟨bR, 0, none⟩), .func (.func g) #[] lb] w0 (Ret fun u w' => u = optV vf (.string (bst [])) (qGet wo f s) ∧ Ch [bR] w0 w' ∧ Blk w' bR (rdC vl (qAft (qGet wo f s) s)) 39) := by
  obtain ⟨i, bad⟩ := s
  simp only at hs
  have hM := Mem.take hB
  obtain ⟨A, c, rfl⟩ := hW.form
  refine enter [.pointer (some ⟨bR, 0, none⟩), .func (.func g) #[] lb, undef, undef, undef, undef, undef, undef, undef, undef, undef, undef, undef, undef, undef, undef, undef, undef, undef, undef, undef, undef, undef, undef, undef, undef, undef, undef, undef, undef, undef, undef, undef, undef, undef, undef, undef, undef, undef, undef, undef, undef, undef, undef, undef, undef, undef, undef, undef, undef, undef, undef, undef, undef, undef, undef, undef] Tryd.func18 rfl rfl ?_
  repeat (first | refine gs ?_ | (refine ks ?_; intro w hM))
  refine kdr hM (by kernel_rfl) (by kernel_rfl) (fun w hM => ?_)
  repeat (first | ((with_reducible apply is_ldg); first | refine kldg hM ?_ | refine kldwg hM ?_) | ((with_reducible apply is_sg); (first | refine ssg ?_ | refine sgu ?_)) | ((with_reducible apply is_gg); first | refine gtg ?_ | refine gfg ?_ | refine gug ?_) | ((with_reducible apply is_eg); refine eg ?_))
  cases bad with
  | true =>
    repeat (first | ((with_reducible apply is_ldg); first | refine kldg hM ?_ | refine kldwg hM ?_) | ((with_reducible apply is_sg); (first | refine ssg ?_ | refine sgu ?_)) | ((with_reducible apply is_gg); first | refine gtg ?_ | refine gfg ?_ | refine gug ?_) | ((with_reducible apply is_eg); refine eg ?_))
    (intro w hc; have hM := hM.call hc)
    repeat (first | refine gs ?_ | (refine ks ?_; intro w hM))
    refine c_condb rfl (fun _ => ?_) (fun h => by cases h)
    repeat (first | refine gs ?_ | (refine ks ?_; intro w hM))
    have e := get_none (wo := wo) (f := f) (s := (i, true)) (.inl rfl)
    exact out1 rfl ⟨by rw [e]; rfl, hM.ch, by rw [e]; exact hM.blk (b := bR) (by (repeat constructor))⟩
  | false =>
  repeat (first | ((with_reducible apply is_ldg); first | refine kldg hM ?_ | refine kldwg hM ?_) | ((with_reducible apply is_sg); (first | refine ssg ?_ | refine sgu ?_)) | ((with_reducible apply is_gg); first | refine gtg ?_ | refine gfg ?_ | refine gug ?_) | ((with_reducible apply is_eg); refine eg ?_))
  by_cases hi : i < wo.length
  rotate_left
  · rw [decide_eq_true (by omega : _)]
    repeat (first | ((with_reducible apply is_ldg); first | refine kldg hM ?_ | refine kldwg hM ?_) | ((with_reducible apply is_sg); (first | refine ssg ?_ | refine sgu ?_)) | ((with_reducible apply is_gg); first | refine gtg ?_ | refine gfg ?_ | refine gug ?_) | ((with_reducible apply is_eg); refine eg ?_))
    (intro w hc; have hM := hM.call hc)
    repeat (first | refine gs ?_ | (refine ks ?_; intro w hM))
    refine c_condb rfl (fun _ => ?_) (fun h => by cases h)
    repeat (first | refine gs ?_ | (refine ks ?_; intro w hM))
    have e := get_none (wo := wo) (f := f) (s := (i, false)) (.inr (by simp only; omega))
    exact out1 rfl ⟨by rw [e]; rfl, hM.ch, by rw [e]; exact hM.blk (b := bR) (by (repeat constructor))⟩
  rw [decide_eq_false (by omega)]
  repeat (first | ((with_reducible apply is_ldg); first | refine kldg hM ?_ | refine kldwg hM ?_) | ((with_reducible apply is_sg); (first | refine ssg ?_ | refine sgu ?_)) | ((with_reducible apply is_gg); first | refine gtg ?_ | refine gfg ?_ | refine gug ?_) | ((with_reducible apply is_eg); refine eg ?_))
  (intro w hc; have hM := hM.call hc)
  repeat (first | refine gs ?_ | (refine ks ?_; intro w hM))
  refine c_condb rfl (fun h => by cases h) (fun _ => ?_)
  repeat (first | refine gs ?_ | (refine ks ?_; intro w hM))
  refine kdr hM (by kernel_rfl) (by kernel_rfl) (fun w hM => ?_)
  repeat (first | ((with_reducible apply is_ldg); first | refine kldg hM ?_ | refine kldwg hM ?_) | ((with_reducible apply is_sg); (first | refine ssg ?_ | refine sgu ?_)) | ((with_reducible apply is_gg); first | refine gtg ?_ | refine gfg ?_ | refine gug ?_) | ((with_reducible apply is_eg); refine eg ?_))
  refine kixg hW (fun o1 o2 y hy hA => ?_)
  rw [Int.toNat_natCast] at hy
  refine katg hM hA ?_
  refine kcdg (v := .tuple #[fv y, .bool (f y).isSome]) (vs := [.string (bst y)]) hM (fun w1 hM => hf y w1 (List.mem_of_getElem? hy) hM.ch) ?_
  repeat (first | ((with_reducible apply is_ldg); first | refine kldg hM ?_ | refine kldwg hM ?_) | ((with_reducible apply is_sg); (first | refine ssg ?_ | refine sgu ?_)) | ((with_reducible apply is_gg); first | refine gtg ?_ | refine gfg ?_ | refine gug ?_) | ((with_reducible apply is_eg); refine eg ?_))
  (intro w hc; have hM := hM.call hc)
  have e := get_at (f := f) hy
  repeat (first | refine gs ?_ | (refine ks ?_; intro w hM))
  cases ho : f y with
  | none =>
    rw [ho] at e
    rw [show (none : Option α).isSome = false from rfl]
    repeat (first | refine gs ?_ | (refine ks ?_; intro w hM))
    refine c_condb rfl (fun _ => ?_) (fun h => by cases h)
    repeat (first | refine gs ?_ | (refine ks ?_; intro w hM))
    exact out1 rfl ⟨by rw [e]; rfl, hM.ch, by rw [e]; exact hM.blk (b := bR) (by (repeat constructor))⟩
  | some a =>
    rw [ho] at e
    have hva := hv y a ho
    rw [show (some a : Option α).isSome = true from rfl]
    repeat (first | refine gs ?_ | (refine ks ?_; intro w hM))
    refine c_condb rfl (fun h => by cases h) (fun _ => ?_)
    repeat (first | refine gs ?_ | (refine ks ?_; intro w hM))
    exact out1 rfl ⟨by rw [e]; exact hva, hM.ch, by rw [e]; exact hM.blk (b := bR) (by (repeat constructor))⟩
/-! ### Words of some -/
theorem idxB_take {wo : List (List UInt8)} {x : List UInt8} : ∀ {i : Nat}, (∀ y ∈ wo.take i, y ≠ x) → wo[i]? = some x → idxB wo x = (i : Int) := by
  induction wo with
  | nil => intro i _ h; cases h
  | cons a l ih =>
    intro i h1 h2
    unfold idxB
    cases i with
    | zero => injection h2 with h2; rw [if_pos h2]; rfl
    | succ i =>
      rw [List.take_succ_cons] at h1
      rw [if_neg (h1 a (by simp)), ih (i := i) (fun y hy => h1 y (by simp [hy])) (by simpa using h2), if_neg (by omega)]
      rfl
theorem idxB_no {wo : List (List UInt8)} {x : List UInt8} (h : ∀ y ∈ wo, y ≠ x) : idxB wo x = -1 := by
  induction wo with
  | nil => rfl
  | cons a l ih =>
    unfold idxB
    rw [if_neg (h a (by simp)), ih (fun y hy => h y (by simp [hy])), if_pos rfl]
set_option maxHeartbeats 8000000 in
theorem sidx_any (v : Value) (wo : List (List UInt8)) (x : List UInt8) (w0 : World) (hW : (Ty.enc eBs).Rd [] w0 v wo) (hl : wo.length ≤ 100000) :
    Calls Tryd.prog 34 #[v, .string (bst x)] w0 (Ret fun u w' => u = .int .i64 (idxB wo x) ∧ Ch [] w0 w') := by
  have hM := Mem.start w0
  obtain ⟨A, c, rfl⟩ := hW.form
  refine enter [.slice A wo.length c, .string (bst x), undef, undef, undef, undef, undef, undef, undef, undef, undef, undef, undef, undef, undef, undef, undef, undef, undef] Tryd.func34 rfl rfl ?_
  repeat (first | refine gs ?_ | (refine ks ?_; intro w hM))
  
  refine c_loop (fun n l w => ∃ (i : Nat), (∃ jj : Nat → Value, l = [.slice A wo.length c, .string (bst x), jj 2, jj 3, jj 4, jj 5, jj 6, .int .i64 (wo.length : Int), .int .i64 (i : Int), jj 9, jj 10, jj 11, jj 12, jj 13, jj 14, jj 15, jj 16, jj 17, jj 18]) ∧ n + i = wo.length ∧ (∀ y ∈ wo.take i, y ≠ x) ∧ Mem [] w0 w []) wo.length
    ⟨0, exj rfl, rfl, by simp, hM⟩ ?_
  clear hM
  rintro n l w ⟨i, ⟨jj, rfl⟩, hn, hx, hM⟩
  repeat (first | refine gs ?_ | (refine ks ?_; intro w hM))
  refine c_cond rfl (fun hi => ?_) (fun hi => ?_)
  · repeat (first | refine gs ?_ | (refine ks ?_; intro w hM))
    refine kix hW (fun b o y hy hA => ?_)
    rw [Int.toNat_natCast] at hy
    refine kat hM hA ?_
    repeat (first | refine gs ?_ | (refine ks ?_; intro w hM))
    by_cases hxy : x = y
    · rw [decide_eq_true hxy]
      refine c_condb rfl (fun _ => ?_) (fun h => by cases h)
      repeat (first | refine gs ?_ | (refine ks ?_; intro w hM))
      exact out1 rfl ⟨by rw [idxB_take hx (by rw [hy, hxy])]; rfl, hM.ch⟩
    · rw [decide_eq_false hxy]
      refine c_condb rfl (fun h => by cases h) (fun _ => ?_)
      repeat (first | refine gs ?_ | (refine ks ?_; intro w hM))
      refine x_goes (n - 1) rfl (by omega) ⟨i + 1, exj rfl, by omega, fun z hz => ?_, hM⟩
      rw [List.take_add_one, hy] at hz
      rcases List.mem_append.1 hz with hz | hz
      · exact hx z hz
      · have hz : z = y := by simpa using hz
        exact fun e => hxy (e.symm.trans hz)
  · repeat (first | refine gs ?_ | (refine ks ?_; intro w hM))
    rw [List.take_of_length_le (by omega)] at hx
    exact out1 rfl ⟨by rw [idxB_no hx]; rfl, hM.ch⟩
theorem one1_any (b : Nat) (v : Value) (T : TypeId) (wo : List (List UInt8)) (x : List UInt8) (w0 : World) (hB : Blk w0 b [v] T) (hW : (Ty.enc eBs).Rd [] w0 v wo) (hl : wo.length ≤ 100000) :
    Calls Tryd.prog 33 #[.string (bst x), .pointer (some ⟨b, 0, none⟩)] w0 (Ret fun u w' => u = .tuple #[.int .i64 (idxB wo x), .bool (oneB wo x).isSome] ∧ Ch [] w0 w') := by
  have hM := Mem.begin (Ch.refl [] w0)
  refine enter [.string (bst x), .pointer (some ⟨b, 0, none⟩), undef, undef, undef, undef, undef, undef, undef, undef, undef, undef] Tryd.func33 rfl rfl ?_
  repeat (first | refine gs ?_ | (refine ks ?_; intro w hM))
  refine kca hM (sidx_any v wo x w0 hW hl) (fun w hM => ?_)
  repeat (first | refine gs ?_ | (refine ks ?_; intro w hM))
  refine out2 rfl ⟨?_, hM.ch⟩
  unfold oneB
  by_cases q : 0 < idxB wo x
  · rw [if_pos q]; simp [ev, nth, q]
  · rw [if_neg q]; simp [ev, nth, q]
theorem one_any (v : Value) (w0 : World) :
    Calls Tryd.prog 11 #[v] w0 (Ret fun u w' => ∃ b, u = .func (.func 33) #[] #[.pointer (some ⟨b, 0, none⟩)] ∧ Mem [] w0 w' [.cell b v.cells.toList 36]) := by
  have hM := Mem.start w0
  refine enter [v, undef, undef, undef] Tryd.func11 rfl rfl ?_
  repeat (first | refine gs ?_ | (refine ks ?_; intro w hM))
  refine kbx hM (fun w b hM => ?_)
  repeat (first | refine gs ?_ | (refine ks ?_; intro w hM))
  (try ((with_reducible apply is_gd); first | refine gt ?_ | refine gf ?_ | refine gu ?_)); refine wl_val (r_makeFunc (cs := [.tmp 1])) ?_
  repeat (first | refine gs ?_ | (refine ks ?_; intro w hM))
  exact out1 rfl ⟨b, rfl, hM⟩
end Go.Proofs.YtoimhmphhffelaaDoor
set_option linter.unusedVariables false
set_option linter.unusedSimpArgs false
namespace Go.Proofs.E
open Go Go.RowKit
end Go.Proofs.E
namespace Go.Proofs.YtoimhmphhffelaaDoor
open Go Go.RowKit Go.Proofs.E
attribute [local irreducible] Go.wpList Go.Code.wp Go.Proofs.E.exec Go.Proofs.E.wpLexG
end Go.Proofs.YtoimhmphhffelaaDoor
set_option linter.unusedVariables false
set_option linter.unusedSimpArgs false
namespace Go.Proofs.YtoimhmphhffelaaDoor
open Go Go.RowKit Go.Proofs.E
attribute [local irreducible] Go.wpList Go.Code.wp Go.Proofs.E.exec Go.Proofs.E.wpLexG
abbrev tsC (t : TsV) : List Value := [.int .i64 t.1, .int .i64 t.2.1, .string (bst t.2.2)]
abbrev eTs : En TsV := { f := tsC, n := 3, hl := fun _ => rfl, h1 := fun t u hu => by simp at hu; rcases hu with rfl | rfl | rfl <;> rfl }
theorem test_eq {wo : List (List UInt8)} {s s1 s2 s3 : PS} {o1 o2 : Option Int} {o3 : Option (List UInt8)} (h1 : qGet wo (oneB fieldsW) s = o1) (h2 : qAft o1 s = s1) (h3 : qGet wo (oneB opsW) s1 = o2) (h4 : qAft o2 s1 = s2) (h5 : qGet wo textQ s2 = o3) (h6 : qAft o3 s2 = s3) :
    qTest wo s = (qTestV o1 o2 o3, s3) := by
  unfold qTest
  rw [h1, h2, h3, h4, h5, h6]
theorem aft_le {α : Type} {wo : List (List UInt8)} {f : List UInt8 → Option α} {s : PS} (h : s.1 ≤ wo.length) : (qAft (qGet wo f s) s).1 ≤ wo.length := by
  unfold qAft
  split
  · rename_i q
    unfold qGet at q
    split at q
    · cases q
    · cases hi : wo[s.1]? with
      | none => rw [hi] at q; cases q
      | some y =>
        have := (List.getElem?_eq_some_iff.1 hi).1
        simp only
        omega
  · exact h
end Go.Proofs.YtoimhmphhffelaaDoor

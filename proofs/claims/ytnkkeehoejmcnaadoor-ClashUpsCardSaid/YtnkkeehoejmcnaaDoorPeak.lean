/- Walks: peaks that may be, the program's and the reference's.
   Walks: one leaf more, the program's.
   Walks: the root of peaks, the program's and the reference's.
   Walks: one leaf more, the reference's.
   Walks: the peaks of leaves, the program's and the reference's; the very same hashes? -/
import Derived.Test.YtnkkeehoejmcnaaDoorCnt
import Derived.Test.YtnkkeehoejmcnaaDoorPk
import Derived.Test.YtnkkeehoejmcnaaDoorZ
import Derived.Test.YtnkkeehoejmcnaaDoorLives
import Derived.Test.YtnkkeehoejmcnaaDoorRoot
import Derived.Test.YtnkkeehoejmcnaaDoorRRoot
import Derived.Test.YtnkkeehoejmcnaaDoorRef
set_option linter.unusedVariables false
set_option linter.unusedSimpArgs false
namespace Go.Proofs.YtnkkeehoejmcnaaDoor
open Go Go.RowKit Go.Proofs.E
attribute [local irreducible] Go.wpList Go.Code.wp Go.Proofs.E.exec Go.Proofs.E.wpLexG
/-- Peaks as a value. -/
def pkV (n : Int) (v : Value) : Value := .agg #[.int .i64 n, v]
def goodZ (n : Int) (k : Nat) : Bool := decide (0 ≤ n) && decide (n ≤ 1099511627776) && decide (k = popN n.toNat)
end Go.Proofs.YtnkkeehoejmcnaaDoor
set_option linter.unusedVariables false
set_option linter.unusedSimpArgs false
namespace Go.Proofs.E
open Go Go.RowKit
/-- A slice of a block of one's own that begins with what is known. -/
theorem Blk.rdP {α : Type} {en : En α} {w : World} {S : List Nat} {b m cap : Nat} {cells : List Value} {ys : List α} {E : TypeId} (hB : Blk w b cells E) (hS : b ∉ S) (hc : cells.take (m * en.n) = ys.flatMap en.f) (hm : ys.length = m) (hle : m ≤ cap) (hb : m ≤ 9223372036854775807) : (Ty.enc en).Rd S w (.slice (some ⟨b, 0, none⟩) m cap) ys := by
  subst hm
  refine ⟨hb, _, cap, rfl, hle, fun _ => ⟨b, 0, rfl, hB.lt, hS, fun i x hx => ⟨hB.lt, hS, _, rfl, fun j v hv => ?_⟩⟩⟩
  refine hB.cell ?_
  have := flatMap_at en.hl ys i x hx j v hv
  rw [← hc, List.getElem?_take] at this
  split at this
  · show cells[0 + i * en.n + j]? = _
    rwa [Nat.zero_add]
  · cases this
end Go.Proofs.E
namespace Go.Proofs.YtnkkeehoejmcnaaDoor
open Go Go.RowKit Go.Proofs.E
attribute [local irreducible] Go.wpList Go.Code.wp Go.Proofs.E.exec Go.Proofs.E.wpLexG
theorem one_pk {n : Int} {A : Option Addr} {k c : Nat} : ∀ u ∈ [Value.int .i64 n, Value.slice A k c], u.oneCell' = true := by
  intro u hu
  simp at hu
  rcases hu with rfl | rfl <;> rfl
def okZ (n : Int) (k : Nat) : Bool := goodZ n k && !decide (n = 1099511627776)
theorem goodZ_of {n : Int} {k : Nat} (h : goodZ n k = true) : 0 ≤ n ∧ n ≤ 1099511627776 ∧ k = popN n.toNat := by
  unfold goodZ at h
  simp only [Bool.and_eq_true, decide_eq_true_eq] at h
  exact ⟨h.1.1, h.1.2, h.2⟩
theorem spl_take {cs vs : List Value} {o : Nat} (h : o + vs.length ≤ cs.length) : (spl cs o vs).take (o + vs.length) = cs.take o ++ vs := by
  unfold spl
  exact List.take_left' (by rw [List.length_append, List.length_take]; omega)
theorem spl_keep {cs vs : List Value} {o : Nat} (h : o + vs.length ≤ cs.length) : (spl cs o vs).take o = cs.take o := by
  unfold spl
  rw [List.append_assoc, List.take_append_of_le_length (by rw [List.length_take]; omega), List.take_take, Nat.min_self]
/-- What the row of tops is on its way. -/
def FA (bd L M : Nat) (pre : List Hs) (h : Hs) (i : Nat) (w : World) : Prop := match i with
  | 0 => ∃ cs, Blk w bd cs 26 ∧ cs.length = L ∧ cs.take (M * 32) = pre.flatMap eH.f
  | _ => ∃ cs, Blk w bd cs 26 ∧ cs.length = L ∧ cs.take ((M + 1) * 32) = (pre ++ [h]).flatMap eH.f
theorem stab_FA {bd L M : Nat} {pre : List Hs} {h : Hs} : Stab (FA bd L M pre h) := fun i a b hc hf => by
  cases i with
  | zero => obtain ⟨cs, h1, h2, h3⟩ := hf; exact ⟨cs, h1.ch hc (by simp), h2, h3⟩
  | succ i => obtain ⟨cs, h1, h2, h3⟩ := hf; exact ⟨cs, h1.ch hc (by simp), h2, h3⟩
end Go.Proofs.YtnkkeehoejmcnaaDoor
set_option linter.unusedVariables false
set_option linter.unusedSimpArgs false
namespace Go.Proofs.YtnkkeehoejmcnaaDoor
open Go Go.RowKit Go.Proofs.E
attribute [local irreducible] Go.wpList Go.Code.wp Go.Proofs.E.exec Go.Proofs.E.wpLexG
def rootPk (n : Int) (ts : List Hs) : Hs := if (goodZ n ts.length && !decide (n = 0)) = true then topH ts else emptyH
theorem popN_pos {n : Nat} (h0 : 0 < n) (h : n < 2 ^ 63) : 0 < popN n := by
  obtain ⟨k, hk, h1, h3, h4⟩ := bitLen_spec (u := n) h0 (by omega)
  have hk63 : k < 63 := by
    rcases Nat.lt_or_ge k 63 with h | h
    · exact h
    · have : 2 ^ 63 ≤ 2 ^ k := Nat.pow_le_pow_right (by omega) h
      omega
  unfold popN
  rw [bitsDown_top h1 h3 hk63]
  simp
theorem topH_last {ts : List Hs} {t : Hs} {k : Nat} (h : ts[k]? = some t) (hk : ts.length = k + 1) : (ts.take k).foldr nodeH t = topH ts := by
  have : ts = ts.take k ++ [t] := by
    conv => lhs; rw [← List.take_append_drop k ts]
    congr 1
    rw [List.drop_eq_getElem_cons (by omega), List.drop_of_length_le (by omega)]
    rw [List.getElem?_eq_getElem (by omega)] at h
    rw [Option.some.inj h]
  unfold topH
  conv => rhs; rw [this]
  exact (topG_snoc _).symm
theorem fold_step {ts : List Hs} {t x : Hs} {k i : Nat} (hi : i < k) (hk : k ≤ ts.length) (hx : ts[i]? = some x) : ((ts.take k).drop i).foldr nodeH t = nodeH x (((ts.take k).drop (i + 1)).foldr nodeH t) := by
  have hlt : i < (ts.take k).length := by rw [List.length_take]; omega
  rw [List.drop_eq_getElem_cons hlt, List.foldr_cons]
  congr 1
  rw [List.getElem_take]
  rw [List.getElem?_eq_getElem (by omega)] at hx
  exact Option.some.inj hx
end Go.Proofs.YtnkkeehoejmcnaaDoor
set_option linter.unusedVariables false
set_option linter.unusedSimpArgs false
namespace Go.Proofs.E
open Go Go.RowKit
section
variable {P : Program} {ops : Array Oper} {Q : Exit → Act → World → Prop} {rest : List Oper} {l : List Value} {w : World} {op : Op} {T : TypeId} {pos : String} {after : Array Edge}
/-- append([]T{}, ys...). -/
theorem wl_append_e {α : Type} {en : En α} {n by_ : Nat} {d : Nat} {x y : Operand} {t e : TypeId} {z yv : Value} {S : List Nat} [hu : Und P t (.slice e)] [hi : Inf P e z n by_] (hm : en.n = n) (hz : z.cells.size = n)
    {base g : Nat} {ys : List α} (hx : ev l x = .slice (some ⟨g, 0, none⟩) 0 0) (hB : Blk w g [] e) (hbase : base ≤ g) (hy : ev l y = yv) (hR : (Ty.enc en).Rd S w yv ys) (hb : ys.length * by_ ≤ 140737488355328) (h63 : ys.length ≤ 281474976710656)
    (h : ∀ v' w', Own en w' base e v' ys → Ch [] w w' → wpList P ops Q rest (fr (l.set d v')) w') :
    wpList P ops Q ({ dst := some d, op := .call { callee := .builtin .append, args := #[x, y], argTypes := #[t, t] }, type := T, pos := pos, after := after, guard := none } :: rest) (fr l) w := by
  have hO : Own en w base e (.slice (some ⟨g, 0, none⟩) 0 0) ([] : List α) := ⟨by simp, .inr ⟨g, 0, #[], rfl, hbase, hB, Nat.le_refl _, by simp [maxLen], by simp, by simp⟩⟩
  by_cases hne : ys = []
  · subst hne
    obtain ⟨A, c, rfl⟩ := hR.form
    exact wl_append0 hx hO hy (h _ w hO (Ch.refl _ _))
  · obtain ⟨b, o, cap, rfl, hb1, hS, hrow⟩ := rowE hR hne
    exact wl_append_full (en := en) (xs := []) (S := []) hm hz hx (hO.rd (by simp) (by simp)) (fun _ => ⟨g, rfl⟩) (Nat.le_trans hbase (Nat.le_of_lt hB.lt)) hne hy hrow (by simpa using hb) (by simpa using h63) (fun v' w' k1 k2 _ => h v' w' (by simpa using k1) k2)
/-- x[:j:q] of a slice whose block is known. -/
theorem r_cut_own_hm {x y q : Operand} {t e : TypeId} {z : Value} {m by_ n c b o : Nat} {k k' : IntKind} {j i : Int} [hu : Und P t (.slice e)] [hi : Inf P e z m by_] (hx : ev l x = .slice (some ⟨b, o, none⟩) n c) (hy : ev l y = .int k j) (hq : ev l q = .int k' i) (h0 : 0 ≤ j) (h2 : j ≤ i) (h1 : i ≤ c) :
    (exec (ev l) (.slice t x none (some y) (some q)) T).run P w = .ok (.value (.slice (some ⟨b, o, none⟩) j.toNat i.toNat)) w := by
  have := run_cut (P := P) (w := w) (t := t) (e := e) (hu := hu) (hi := hi) (A := some ⟨b, o, none⟩) (bnd_hm (b := true) (n := n) (c := c) (k := k) (k' := k') h0 h2 h1)
  simp [exec, execOp, hx, hy, hq, this, Addr.add]
end
theorem rem2 {q : Nat} : (q : Int).tmod 2 = ((q % 2 : Nat) : Int) := by
  rw [Int.tmod_eq_emod_of_nonneg (by omega)]
  omega
theorem quo2 {q : Nat} (h : q < 2 ^ 62) : IntKind.i64.wrap ((q : Int).tdiv 2) = ((q / 2 : Nat) : Int) := by
  rw [Int.tdiv_eq_ediv_of_nonneg (by omega)]
  exact (wrap_i64 (by omega)).trans (by omega)
theorem Own.some_ {α : Type} {en : En α} {w : World} {base : Nat} {E : TypeId} {v : Value} {xs : List α} (h : Own en w base E v xs) (hne : xs ≠ []) : ∃ g cap cs, v = .slice (some ⟨g, 0, none⟩) xs.length cap ∧ base ≤ g ∧ xs.length ≤ cap ∧ Blk w g cs E ∧ cs.take (xs.length * en.n) = xs.flatMap en.f := by
  rcases h.2 with ⟨rfl, h0⟩ | ⟨g, cap, cur, rfl, hg, hh, hc1, hc2, hc3, hc4⟩
  · exact absurd (List.eq_nil_of_length_eq_zero h0) hne
  · exact ⟨g, cap, cur.toList, rfl, hg, hc1, by unfold Blk; rw [Array.toArray_toList]; exact hh, hc4⟩
end Go.Proofs.E
namespace Go.Proofs.YtnkkeehoejmcnaaDoor
open Go Go.RowKit Go.Proofs.E
attribute [local irreducible] Go.wpList Go.Code.wp Go.Proofs.E.exec Go.Proofs.E.wpLexG
theorem addH_step {ts : List Hs} {h a b : Hs} {i : Nat} (hi : i < ts.length) (ha : (addH i ts h)[ts.length - i - 1]? = some a) (hb : (addH i ts h)[ts.length - i]? = some b) : (addH i ts h).take (ts.length - i - 1) ++ [nodeH a b] = addH (i + 1) ts h := by
  unfold addH addG at *
  have hl : (ts.take (ts.length - i)).length = ts.length - i := by rw [List.length_take]; omega
  rw [List.getElem?_append_left (by omega), List.getElem?_take, if_pos (by omega)] at ha
  rw [List.getElem?_append_right (by omega), hl, Nat.sub_self, List.getElem?_cons_zero] at hb
  rw [← Option.some.inj hb, List.take_append_of_le_length (by omega), List.take_take, Nat.min_eq_left (by omega), show ts.length - (i + 1) = ts.length - i - 1 by omega]
  have hlt : ts.length - i - 1 < ts.length := by omega
  rw [List.getElem?_eq_getElem hlt] at ha
  conv => rhs; rw [List.drop_eq_getElem_cons hlt]
  rw [List.foldr_cons, Option.some.inj ha, show ts.length - i - 1 + 1 = ts.length - i by omega]
end Go.Proofs.YtnkkeehoejmcnaaDoor
set_option linter.unusedVariables false
set_option linter.unusedSimpArgs false
namespace Go.Proofs.YtnkkeehoejmcnaaDoor
open Go Go.RowKit Go.Proofs.E
attribute [local irreducible] Go.wpList Go.Code.wp Go.Proofs.E.exec Go.Proofs.E.wpLexG
theorem popN_small {n : Nat} (h : n ≤ 60) : okZ (n : Int) (popN n) = true := by
  unfold okZ goodZ
  rw [Int.toNat_natCast, decide_eq_true (by omega : (0 : Int) ≤ (n : Int)), decide_eq_true (by omega : (n : Int) ≤ 1099511627776), decide_eq_false (by omega : ¬ (n : Int) = 1099511627776), decide_eq_true rfl]
  rfl
theorem pkH_step {lv : List Hs} {i : Nat} {x : Hs} (hx : lv[i]? = some x) (h : lv.length ≤ 60) : addH (tones i) (pkH (lv.take i)) x = pkH (lv.take (i + 1)) := by
  have hi := (List.getElem?_eq_some_iff.1 hx).1
  have hl : (lv.take i).length = i := by rw [List.length_take]; omega
  have := add_pk (nd := nodeH) (em := emptyH) i (lv.take i) x hl (by omega)
  rw [hl] at this
  unfold addH pkH
  rw [this, List.take_add_one, hx]
  rfl
theorem pkH_len (l : List Hs) : (pkH l).length = popN l.length := pkG_len l
/-! ### The very same hashes? -/
end Go.Proofs.YtnkkeehoejmcnaaDoor

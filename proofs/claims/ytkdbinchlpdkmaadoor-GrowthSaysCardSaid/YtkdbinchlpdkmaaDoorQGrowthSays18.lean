/- Walks: what a path of growth leads to, the reference's.
   Walks: the reference's Checks.
   Plain: the way of growth, and what a path leads to along it.
   Walks: is it shown that one root has grown of another one, the program's.
   The plain law of growth, first part: the facts of a path and of growth, told along the way and from above.
   The plain law of growth, second part: of facts two inputs of one hash: the first two in order, however they are looked for. -/
import Derived.Test.YtkdbinchlpdkmaaDoorQGrowthSays17
import Derived.Test.YtkdbinchlpdkmaaDoorQGrowthSays04
set_option linter.unusedVariables false
set_option linter.unusedSimpArgs false
namespace Go.Proofs.YtkdbinchlpdkmaaDoor
open Go Go.RowKit Go.Proofs.E
attribute [local irreducible] Go.wpList Go.Code.wp Go.Proofs.E.exec Go.Proofs.E.wpLexG
end Go.Proofs.YtkdbinchlpdkmaaDoor
set_option linter.unusedVariables false
set_option linter.unusedSimpArgs false
namespace Go.Proofs.YtkdbinchlpdkmaaDoor
open Go Go.RowKit Go.Proofs.E
attribute [local irreducible] Go.wpList Go.Code.wp Go.Proofs.E.exec Go.Proofs.E.wpLexG
end Go.Proofs.YtkdbinchlpdkmaaDoor
set_option linter.unusedVariables false
set_option linter.unusedSimpArgs false
namespace Go.Proofs.YtkdbinchlpdkmaaDoor
open Go Go.RowKit Go.Proofs.E
def qOf (W : Bool) (path : List Hs) : List Hs := if W = true then path else path.drop 1
def sOf (W : Bool) (a : Hs) (path : List Hs) : Hs := if W = true then a else path.getD 0 zeroH
def one (W : Bool) : Nat := if W = true then 0 else 1
theorem parts_of {W : Bool} {a : Hs} {path : List Hs} {k : Nat} (h : path.length = k + 1 + one W) :
    qOf W (path.take (path.length - 1)) = (qOf W path).take k ∧ sOf W a (path.take (path.length - 1)) = sOf W a path ∧ (qOf W path).getD k zeroH = path.getD (path.length - 1) zeroH := by
  cases W with
  | true =>
    have h : path.length = k + 1 := h
    refine ⟨?_, rfl, ?_⟩
    · show path.take _ = path.take _
      rw [show path.length - 1 = k by omega]
    · show path.getD k zeroH = _
      rw [show path.length - 1 = k by omega]
  | false =>
    have h : path.length = k + 2 := h
    refine ⟨?_, ?_, ?_⟩
    · show (path.take _).drop 1 = (path.drop 1).take k
      rw [List.drop_take, show path.length - 1 - 1 = k by omega]
    · show (path.take _).getD 0 zeroH = path.getD 0 zeroH
      rw [List.getD_eq_getElem?_getD, List.getD_eq_getElem?_getD, List.getElem?_take, if_pos (by omega)]
    · show (path.drop 1).getD k zeroH = _
      rw [List.getD_eq_getElem?_getD, List.getD_eq_getElem?_getD, List.getElem?_drop, show path.length - 1 = 1 + k by omega]
end Go.Proofs.YtkdbinchlpdkmaaDoor
set_option linter.unusedVariables false
set_option linter.unusedSimpArgs false
namespace Go.Proofs.YtkdbinchlpdkmaaDoor
open Go Go.RowKit Go.Proofs.E
attribute [local irreducible] Go.wpList Go.Code.wp Go.Proofs.E.exec Go.Proofs.E.wpLexG
end Go.Proofs.YtkdbinchlpdkmaaDoor
set_option linter.unusedVariables false
set_option linter.unusedSimpArgs false
namespace Go.Proofs.YtkdbinchlpdkmaaDoor
open Go Go.RowKit Go.Proofs.E
abbrev Ft := Int × Int × Hs × List UInt8
def inH (bs : List UInt8) : Hs := ⟨shaOf bs, shaOf_len bs⟩
def factL (lo hi : Nat) (leaf : List UInt8) : Ft := ((lo : Int), (hi : Int), inH (0 :: leaf), 0 :: leaf)
def factN (lo hi : Nat) (a b : Hs) : Ft := ((lo : Int), (hi : Int), nodeH a b, 1 :: (a.1 ++ b.1))
def factS (lo hi : Nat) (h : Hs) : Ft := ((lo : Int), (hi : Int), h, [])
def topF (l : List Ft) : Hs := ((l.getLast?).map (fun f => f.2.2.1)).getD zeroH
theorem topF_snoc (l : List Ft) (f : Ft) : topF (l ++ [f]) = f.2.2.1 := by simp [topF]
theorem topF_snoc2 (l : List Ft) (e f : Ft) : topF (l ++ [e, f]) = f.2.2.1 := by
  rw [show l ++ [e, f] = (l ++ [e]) ++ [f] by simp, topF_snoc]
/-- A part on a way down: where it begins, where it is cut, where it ends; whether the way goes to the right. -/
abbrev Wy := Nat × Nat × Nat × Bool
def uplW (ts : List Wy) : List (Nat × Wy) := ts.reverse.zipIdx.map fun p => (p.2, p.1)
theorem uplW_cons (t : Wy) (ts : List Wy) : uplW (t :: ts) = uplW ts ++ [(ts.length, t)] := by
  unfold uplW
  rw [List.reverse_cons, List.zipIdx_append, List.map_append]
  simp
theorem uplW_mem {ts : List Wy} {x : Nat × Wy} (h : x ∈ uplW ts) : x.1 < ts.length := by
  unfold uplW at h
  obtain ⟨p, hp, rfl⟩ := List.mem_map.1 h
  have := List.snd_lt_of_mem_zipIdx hp
  simpa using this
theorem uplW_len (ts : List Wy) : (uplW ts).length = ts.length := by simp [uplW]
theorem uplW_get {ts : List Wy} {i : Nat} {t : Wy} (h : ts[ts.length - 1 - i]? = some t) (hi : i < ts.length) : (uplW ts)[i]? = some (i, t) := by
  unfold uplW
  rw [List.getElem?_map, List.getElem?_zipIdx, List.getElem?_reverse hi, h]
  simp
def waysF : Nat → Nat → Nat → Nat → List Wy
  | 0, _, _, _ => []
  | f + 1, lo, n, i => if n ≤ 1 then [] else if i < splitN n then (lo, lo + splitN n, lo + n, false) :: waysF f lo (splitN n) i else (lo, lo + splitN n, lo + n, true) :: waysF f (lo + splitN n) (n - splitN n) (i - splitN n)
theorem ways_turns : ∀ f lo n i, (waysF f lo n i).length = (turnsF f n i).length
  | 0, _, _, _ => rfl
  | f + 1, lo, n, i => by
    rw [waysF, turnsF]
    split
    · rfl
    · split
      · rw [List.length_cons, List.length_cons, ways_turns]
      · rw [List.length_cons, List.length_cons, ways_turns]
def stepP (path : List Hs) (out : List Ft) (x : Nat × Wy) : List Ft :=
  if x.2.2.2.2 = true then out ++ [factS x.2.1 x.2.2.1 (path.getD x.1 zeroH), factN x.2.1 x.2.2.2.1 (path.getD x.1 zeroH) (topF out)]
  else out ++ [factS x.2.2.1 x.2.2.2.1 (path.getD x.1 zeroH), factN x.2.1 x.2.2.2.1 (topF out) (path.getD x.1 zeroH)]
theorem stepP_take {path : List Hs} {k : Nat} : ∀ (xs : List (Nat × Wy)) (o : List Ft), (∀ x ∈ xs, x.1 < k) → xs.foldl (stepP (path.take k)) o = xs.foldl (stepP path) o
  | [], o, _ => rfl
  | x :: xs, o, hk => by
    have e : stepP (path.take k) o x = stepP path o x := by
      unfold stepP
      have := hk x (by simp)
      rw [List.getD_eq_getElem?_getD, List.getD_eq_getElem?_getD, List.getElem?_take, if_pos this]
    rw [List.foldl_cons, List.foldl_cons, e, stepP_take xs _ (fun y hy => hk y (by simp [hy]))]
def pathF : Nat → Nat → Nat → Nat → List UInt8 → List Hs → List Ft
  | 0, lo, n, _, leaf, _ => [factL lo (lo + n) leaf]
  | f + 1, lo, n, i, leaf, p =>
    if n ≤ 1 then [factL lo (lo + n) leaf]
    else if i < splitN n then pathF f lo (splitN n) i leaf (p.take (p.length - 1)) ++ [factS (lo + splitN n) (lo + n) (p.getD (p.length - 1) zeroH), factN lo (lo + n) (topF (pathF f lo (splitN n) i leaf (p.take (p.length - 1)))) (p.getD (p.length - 1) zeroH)]
    else pathF f (lo + splitN n) (n - splitN n) (i - splitN n) leaf (p.take (p.length - 1)) ++ [factS lo (lo + splitN n) (p.getD (p.length - 1) zeroH), factN lo (lo + n) (p.getD (p.length - 1) zeroH) (topF (pathF f (lo + splitN n) (n - splitN n) (i - splitN n) leaf (p.take (p.length - 1))))]
theorem pathF_any : ∀ (f g lo n i : Nat) (leaf : List UInt8) (p : List Hs), n ≤ f → n ≤ g → n ≤ 9223372036854775807 → pathF f lo n i leaf p = pathF g lo n i leaf p
  | 0, 0, lo, n, i, leaf, p, _, _, _ => rfl
  | 0, g + 1, lo, n, i, leaf, p, h, _, _ => by rw [pathF, pathF, if_pos (by omega)]
  | f + 1, 0, lo, n, i, leaf, p, _, h, _ => by rw [pathF, pathF, if_pos (by omega)]
  | f + 1, g + 1, lo, n, i, leaf, p, hf, hg, hb => by
    rw [pathF, pathF]
    by_cases h : n ≤ 1
    · rw [if_pos h, if_pos h]
    · rw [if_neg h, if_neg h]
      have := splitN_lt (n := n) (by omega) hb
      rw [pathF_any f g lo (splitN n) i leaf _ (by omega) (by omega) (by omega), pathF_any f g (lo + splitN n) (n - splitN n) (i - splitN n) leaf _ (by omega) (by omega) (by omega)]
def pathN (lo n i : Nat) (leaf : List UInt8) (p : List Hs) : List Ft := pathF n lo n i leaf p
theorem path_one {lo n i : Nat} {leaf : List UInt8} {p : List Hs} (h : n ≤ 1) : pathN lo n i leaf p = [factL lo (lo + n) leaf] := by
  unfold pathN
  cases n with
  | zero => rfl
  | succ n => rw [pathF, if_pos h]
theorem path_left {lo n i : Nat} {leaf : List UInt8} {p : List Hs} (h2 : 2 ≤ n) (hb : n ≤ 9223372036854775807) (hi : i < splitN n) :
    pathN lo n i leaf p = pathN lo (splitN n) i leaf (p.take (p.length - 1)) ++ [factS (lo + splitN n) (lo + n) (p.getD (p.length - 1) zeroH), factN lo (lo + n) (topF (pathN lo (splitN n) i leaf (p.take (p.length - 1)))) (p.getD (p.length - 1) zeroH)] := by
  have := splitN_lt h2 hb
  unfold pathN
  obtain ⟨f, rfl⟩ : ∃ f, n = f + 1 := ⟨n - 1, by omega⟩
  conv => lhs; rw [pathF]
  rw [if_neg (by omega), if_pos hi, pathF_any f (splitN (f + 1)) lo _ i leaf _ (by omega) (Nat.le_refl _) (by omega)]
theorem path_right {lo n i : Nat} {leaf : List UInt8} {p : List Hs} (h2 : 2 ≤ n) (hb : n ≤ 9223372036854775807) (hi : ¬ i < splitN n) :
    pathN lo n i leaf p = pathN (lo + splitN n) (n - splitN n) (i - splitN n) leaf (p.take (p.length - 1)) ++ [factS lo (lo + splitN n) (p.getD (p.length - 1) zeroH), factN lo (lo + n) (p.getD (p.length - 1) zeroH) (topF (pathN (lo + splitN n) (n - splitN n) (i - splitN n) leaf (p.take (p.length - 1))))] := by
  have := splitN_lt h2 hb
  unfold pathN
  obtain ⟨f, rfl⟩ : ∃ f, n = f + 1 := ⟨n - 1, by omega⟩
  conv => lhs; rw [pathF]
  rw [if_neg (by omega), if_neg hi, pathF_any f (f + 1 - splitN (f + 1)) (lo + splitN (f + 1)) _ _ leaf _ (by omega) (Nat.le_refl _) (by omega)]
/-- Up the ways, the same. -/
theorem path_ways : ∀ (f lo n i : Nat) (leaf : List UInt8) (path : List Hs), n ≤ f → n ≤ 9223372036854775807 → i < n → path.length = (waysF f lo n i).length →
    (uplW (waysF f lo n i)).foldl (stepP path) [factL (lo + i) (lo + i + 1) leaf] = pathF f lo n i leaf path
  | 0, lo, n, i, leaf, path, h, _, hi, _ => by omega
  | f + 1, lo, n, i, leaf, path, hf, hb, hi, hl => by
    rw [waysF] at hl ⊢
    rw [pathF]
    by_cases h : n ≤ 1
    · rw [if_pos h] at hl ⊢
      rw [if_pos h]
      obtain rfl : n = 1 := by omega
      obtain rfl : i = 0 := by omega
      rfl
    · rw [if_neg h] at hl ⊢
      rw [if_neg h]
      have := splitN_lt (n := n) (by omega) hb
      by_cases hs : i < splitN n
      · rw [if_pos hs] at hl ⊢
        rw [if_pos hs]
        rw [List.length_cons] at hl
        have hl' : (path.take (path.length - 1)).length = (waysF f lo (splitN n) i).length := by rw [List.length_take]; omega
        have ih := path_ways f lo (splitN n) i leaf (path.take (path.length - 1)) (by omega) (by omega) hs hl'
        rw [stepP_take _ _ (fun x hx => by have := uplW_mem hx; omega)] at ih
        rw [uplW_cons, List.foldl_append, ih, List.foldl_cons, List.foldl_nil]
        unfold stepP
        rw [if_neg (by simp), show (waysF f lo (splitN n) i).length = path.length - 1 by omega]
      · rw [if_neg hs] at hl ⊢
        rw [if_neg hs]
        rw [List.length_cons] at hl
        have hl' : (path.take (path.length - 1)).length = (waysF f (lo + splitN n) (n - splitN n) (i - splitN n)).length := by rw [List.length_take]; omega
        have ih := path_ways f (lo + splitN n) (n - splitN n) (i - splitN n) leaf (path.take (path.length - 1)) (by omega) (by omega) (by omega) hl'
        rw [stepP_take _ _ (fun x hx => by have := uplW_mem hx; omega), show lo + splitN n + (i - splitN n) = lo + i by omega] at ih
        rw [uplW_cons, List.foldl_append, ih, List.foldl_cons, List.foldl_nil]
        unfold stepP
        rw [if_pos rfl, show (waysF f (lo + splitN n) (n - splitN n) (i - splitN n)).length = path.length - 1 by omega]
/-! ### Growth -/
def wayG : Nat → Nat → Nat → Nat → List Wy
  | 0, _, _, _ => []
  | f + 1, lo, m, n => if n ≤ m then [] else if m ≤ splitN n then (lo, lo + splitN n, lo + n, false) :: wayG f lo m (splitN n) else (lo, lo + splitN n, lo + n, true) :: wayG f (lo + splitN n) (m - splitN n) (n - splitN n)
def baseG : Nat → Nat → Nat → Nat → Nat
  | 0, lo, _, _ => lo
  | f + 1, lo, m, n => if n ≤ m then lo else if m ≤ splitN n then baseG f lo m (splitN n) else baseG f (lo + splitN n) (m - splitN n) (n - splitN n)
abbrev Gs := List Ft × Hs × Hs
def stepG (M : Nat) (q : List Hs) (s : Gs) (x : Nat × Wy) : Gs :=
  if x.2.2.2.2 = true then (s.1 ++ [factS x.2.1 x.2.2.1 (q.getD x.1 zeroH), factN x.2.1 M (q.getD x.1 zeroH) s.2.1, factN x.2.1 x.2.2.2.1 (q.getD x.1 zeroH) s.2.2], nodeH (q.getD x.1 zeroH) s.2.1, nodeH (q.getD x.1 zeroH) s.2.2)
  else (s.1 ++ [factS x.2.2.1 x.2.2.2.1 (q.getD x.1 zeroH), factN x.2.1 x.2.2.2.1 s.2.2 (q.getD x.1 zeroH)], s.2.1, nodeH s.2.2 (q.getD x.1 zeroH))
theorem stepG_take {M : Nat} {q : List Hs} {k : Nat} : ∀ (xs : List (Nat × Wy)) (s : Gs), (∀ x ∈ xs, x.1 < k) → xs.foldl (stepG M (q.take k)) s = xs.foldl (stepG M q) s
  | [], s, _ => rfl
  | x :: xs, s, hk => by
    have e : stepG M (q.take k) s x = stepG M q s x := by
      unfold stepG
      have := hk x (by simp)
      rw [List.getD_eq_getElem?_getD, List.getD_eq_getElem?_getD, List.getElem?_take, if_pos this]
    rw [List.foldl_cons, List.foldl_cons, e, stepG_take xs _ (fun y hy => hk y (by simp [hy]))]
def twoF (a : Hs) (lo m n : Nat) (p : List Hs) (whole : Bool) : Option Gs :=
  if m = n then (if whole = true then (if p.length = 0 then some ([factS lo (lo + n) a], a, a) else none) else if p.length = 1 then some ([factS lo (lo + n) (p.getD 0 zeroH)], p.getD 0 zeroH, p.getD 0 zeroH) else none)
  else if p.length = 0 then none
  else if m ≤ splitN n then
    (twoF a lo m (splitN n) (p.take (p.length - 1)) whole).map fun s => (s.1 ++ [factS (lo + splitN n) (lo + n) (p.getD (p.length - 1) zeroH), factN lo (lo + n) s.2.2 (p.getD (p.length - 1) zeroH)], s.2.1, nodeH s.2.2 (p.getD (p.length - 1) zeroH))
  else (twoF a (lo + splitN n) (m - splitN n) (n - splitN n) (p.take (p.length - 1)) false).map fun s =>
    (s.1 ++ [factS lo (lo + splitN n) (p.getD (p.length - 1) zeroH), factN lo (lo + m) (p.getD (p.length - 1) zeroH) s.2.1, factN lo (lo + n) (p.getD (p.length - 1) zeroH) s.2.2], nodeH (p.getD (p.length - 1) zeroH) s.2.1, nodeH (p.getD (p.length - 1) zeroH) s.2.2)
termination_by p.length
decreasing_by all_goals (rw [List.length_take]; omega)
def anyW (ts : List Wy) : Bool := ts.any (·.2.2.2)
/-- Along the way, the same. -/
theorem two_way (a : Hs) : ∀ (f lo m n : Nat) (p : List Hs) (whole : Bool), n ≤ f → 1 ≤ m → m ≤ n → n ≤ 9223372036854775807 →
    ∃ W, W = (whole && !anyW (wayG f lo m n)) ∧ twoF a lo m n p whole = if p.length = (wayG f lo m n).length + one W then some ((uplW (wayG f lo m n)).foldl (stepG (lo + m) (qOf W p)) ([factS (baseG f lo m n) (lo + m) (sOf W a p)], sOf W a p, sOf W a p)) else none
  | 0, lo, m, n, p, whole, hf, h1, hmn, hb => by omega
  | f + 1, lo, m, n, p, whole, hf, h1, hmn, hb => by
    refine ⟨_, rfl, ?_⟩
    rw [wayG, baseG, twoF]
    by_cases h : m = n
    · rw [if_pos h, if_pos (by omega : n ≤ m), if_pos (by omega : n ≤ m)]
      subst h
      cases whole with
      | true =>
        rw [if_pos rfl]
        rfl
      | false =>
        rw [if_neg (by simp)]
        rfl
    · rw [if_neg h, if_neg (by omega : ¬ n ≤ m), if_neg (by omega : ¬ n ≤ m)]
      have hsp := splitN_lt (n := n) (by omega) hb
      by_cases h0 : p.length = 0
      · rw [if_pos h0, if_neg]
        by_cases hi : m ≤ splitN n
        · rw [if_pos hi, List.length_cons]
          omega
        · rw [if_neg hi, List.length_cons]
          omega
      · rw [if_neg h0]
        by_cases hi : m ≤ splitN n
        · rw [if_pos hi, if_pos hi, if_pos hi]
          obtain ⟨W, hW, hok⟩ := two_way a f lo m (splitN n) (p.take (p.length - 1)) whole (by omega) h1 hi (by omega)
          have hW' : (whole && !anyW ((lo, lo + splitN n, lo + n, false) :: wayG f lo m (splitN n))) = W := by rw [hW]; rfl
          rw [hW', hok, List.length_cons, List.length_take]
          by_cases hl : p.length = (wayG f lo m (splitN n)).length + 1 + one W
          · rw [if_pos hl, if_pos (by omega)]
            have hp := parts_of (W := W) (a := a) (k := (wayG f lo m (splitN n)).length) hl
            rw [hp.1, hp.2.1, stepG_take _ _ (fun x hx => uplW_mem hx), Option.map_some, uplW_cons, List.foldl_append, List.foldl_cons, List.foldl_nil]
            conv => rhs; rw [stepG]
            rw [if_neg (by simp), hp.2.2]
          · rw [if_neg hl, if_neg (by omega)]
            rfl
        · rw [if_neg hi, if_neg hi, if_neg hi]
          obtain ⟨W, hW, hok⟩ := two_way a f (lo + splitN n) (m - splitN n) (n - splitN n) (p.take (p.length - 1)) false (by omega) (by omega) (by omega) (by omega)
          have hW' : (whole && !anyW ((lo, lo + splitN n, lo + n, true) :: wayG f (lo + splitN n) (m - splitN n) (n - splitN n))) = W := by rw [hW]; simp [anyW]
          rw [hW', hok, List.length_cons, List.length_take]
          by_cases hl : p.length = (wayG f (lo + splitN n) (m - splitN n) (n - splitN n)).length + 1 + one W
          · rw [if_pos hl, if_pos (by omega)]
            have hp := parts_of (W := W) (a := a) (k := (wayG f (lo + splitN n) (m - splitN n) (n - splitN n)).length) hl
            rw [hp.1, hp.2.1, stepG_take _ _ (fun x hx => uplW_mem hx), Option.map_some, uplW_cons, List.foldl_append, List.foldl_cons, List.foldl_nil, show lo + splitN n + (m - splitN n) = lo + m by omega]
            conv => rhs; rw [stepG]
            rw [if_pos rfl, hp.2.2]
          · rw [if_neg hl, if_neg (by omega)]
            rfl
end Go.Proofs.YtkdbinchlpdkmaaDoor
set_option linter.unusedVariables false
set_option linter.unusedSimpArgs false
namespace Go.Proofs.YtkdbinchlpdkmaaDoor
open Go Go.RowKit Go.Proofs.E
abbrev AbK := Int × Int × Hs
def keyF (f : Ft) : AbK := (f.1, f.2.1, f.2.2.1)
def inF (f : Ft) : List UInt8 := f.2.2.2
/-- Two facts that name two inputs. -/
def hitF (a b : Ft) : Bool := decide (keyF a = keyF b ∧ inF a ≠ [] ∧ inF b ≠ [] ∧ inF a ≠ inF b)
theorem hitF_iff {a b : Ft} : hitF a b = true ↔ keyF a = keyF b ∧ inF a ≠ [] ∧ inF b ≠ [] ∧ inF a ≠ inF b := by unfold hitF; rw [decide_eq_true_eq]
def meetF : List Ft → Option (List UInt8 × List UInt8)
  | [] => none
  | a :: l => match l.find? (hitF a) with
    | some b => some (inF a, inF b)
    | none => meetF l
def Hit (l : List Ft) (i j : Nat) : Prop := ∃ a b, l[i]? = some a ∧ l[j]? = some b ∧ hitF a b = true
def Least (l : List Ft) (i j : Nat) : Prop := i < j ∧ Hit l i j ∧ (∀ i', i' < i → ∀ j', i' < j' → ¬ Hit l i' j') ∧ ∀ j', i < j' → j' < j → ¬ Hit l i j'
theorem hit_cons {x : Ft} {l : List Ft} {i j : Nat} : Hit (x :: l) (i + 1) (j + 1) ↔ Hit l i j := by unfold Hit; simp
theorem meet_none : ∀ {l : List Ft}, (∀ i j, i < j → ¬ Hit l i j) → meetF l = none
  | [], _ => rfl
  | a :: l, h => by
    unfold meetF
    have h1 : l.find? (hitF a) = none := by
      rw [List.find?_eq_none]
      intro b hb hh
      obtain ⟨j, hj⟩ := List.getElem?_of_mem hb
      exact h 0 (j + 1) (by omega) ⟨a, b, rfl, by simpa using hj, hh⟩
    rw [h1]
    exact meet_none (fun i j hij hh => h (i + 1) (j + 1) (by omega) (hit_cons.2 hh))
theorem find_first {α : Type} {p : α → Bool} : ∀ {l : List α} {j : Nat} {b : α}, l[j]? = some b → p b = true → (∀ j', j' < j → ∀ c, l[j']? = some c → p c = false) → l.find? p = some b
  | [], j, b, h, _, _ => by simp at h
  | x :: l, 0, b, h, hp, _ => by
    simp only [List.getElem?_cons_zero, Option.some.injEq] at h
    subst h
    rw [List.find?_cons, hp]
  | x :: l, j + 1, b, h, hp, hl => by
    have h0 := hl 0 (by omega) x rfl
    rw [List.find?_cons, h0]
    exact find_first (l := l) (j := j) (by simpa using h) hp (fun j' hj' c hc => hl (j' + 1) (by omega) c (by simpa using hc))
theorem meet_least : ∀ {l : List Ft} {i j : Nat} {a b : Ft}, Least l i j → l[i]? = some a → l[j]? = some b → meetF l = some (inF a, inF b)
  | [], i, j, a, b, _, h, _ => by simp at h
  | x :: l, 0, j, a, b, ⟨h1, h2, h3, h4⟩, ha, hb => by
    simp only [List.getElem?_cons_zero, Option.some.injEq] at ha
    subst ha
    obtain ⟨j, rfl⟩ : ∃ k, j = k + 1 := ⟨j - 1, by omega⟩
    obtain ⟨a', b', e1, e2, e3⟩ := h2
    simp only [List.getElem?_cons_zero, Option.some.injEq] at e1
    subst e1
    obtain rfl : b' = b := by rw [hb] at e2; injection e2 with e; exact e.symm
    unfold meetF
    rw [find_first (by simpa using hb) e3 (fun j' hj' c hc => by
      cases hh : hitF x c with
      | false => rfl
      | true => exact absurd ⟨x, c, rfl, by simpa using hc, hh⟩ (h4 (j' + 1) (by omega) (by omega)))]
  | x :: l, i + 1, j, a, b, ⟨h1, h2, h3, h4⟩, ha, hb => by
    obtain ⟨j, rfl⟩ : ∃ k, j = k + 1 := ⟨j - 1, by omega⟩
    unfold meetF
    have hn : l.find? (hitF x) = none := by
      rw [List.find?_eq_none]
      intro c hc hh
      obtain ⟨k, hk⟩ := List.getElem?_of_mem hc
      exact h3 0 (by omega) (k + 1) (by omega) ⟨x, c, rfl, by simpa using hk, hh⟩
    rw [hn]
    exact meet_least (l := l) (i := i) (j := j) ⟨by omega, hit_cons.1 h2, fun i' hi' j' hij hh => h3 (i' + 1) (by omega) (j' + 1) (by omega) (hit_cons.2 hh), fun j' q1 q2 hh => h4 (j' + 1) (by omega) (by omega) (hit_cons.2 hh)⟩ (by simpa using ha) (by simpa using hb)
/-! ### With a table of the first facts of a kind -/
/-- i is the first fact with an input below k that has i's kind. -/
def First (l : List Ft) (k i : Nat) : Prop := i < k ∧ ∃ f, l[i]? = some f ∧ inF f ≠ [] ∧ ∀ i', i' < i → ∀ g, l[i']? = some g → inF g ≠ [] → keyF g ≠ keyF f
/-- What the table says. -/
def Tab (l : List Ft) (k : Nat) (ks : List (AbK × Nat)) : Prop := (∀ p ∈ ks, First l k p.2 ∧ ∃ f, l[p.2]? = some f ∧ keyF f = p.1) ∧ ∀ i f, i < k → l[i]? = some f → inF f ≠ [] → ∃ p ∈ ks, p.1 = keyF f
def BestF (l : List Ft) (k best other : Nat) : Prop :=
  (best = l.length ∧ ∀ i j, i < j → j < k → ¬ Hit l i j) ∨ (best < other ∧ other < k ∧ best < l.length ∧ Hit l best other ∧ (∀ i, i < best → ∀ j, i < j → j < k → ¬ Hit l i j) ∧ ∀ j, best < j → j < other → ¬ Hit l best j)
theorem tab0 (l : List Ft) : Tab l 0 [] := ⟨fun p hp => by simp at hp, fun i f hi => by omega⟩
theorem best0 (l : List Ft) : BestF l 0 l.length 0 := .inl ⟨rfl, fun i j _ hj => by omega⟩
section
variable {l : List Ft} {k best other : Nat} {ks : List (AbK × Nat)} {f : Ft}
theorem first_mono {i : Nat} (h : First l k i) : First l (k + 1) i := ⟨by have := h.1; omega, h.2⟩
/-- A fact without an input. -/
theorem tab_skip (hT : Tab l k ks) (hf : l[k]? = some f) (h0 : inF f = []) : Tab l (k + 1) ks :=
  ⟨fun p hp => ⟨first_mono (hT.1 p hp).1, (hT.1 p hp).2⟩, fun i g hi hg hn => by
    rcases Nat.lt_or_ge i k with h | h
    · exact hT.2 i g h hg hn
    · have : i = k := by omega
      subst this
      rw [hf] at hg
      injection hg with hg
      subst hg
      exact absurd h0 hn⟩
theorem best_skip (hB : BestF l k best other) (h : ∀ i, i < k → ¬ Hit l i k) : BestF l (k + 1) best other := by
  rcases hB with ⟨h1, h2⟩ | ⟨h1, h2, h3, h4, h5, h6⟩
  · refine .inl ⟨h1, fun i j hij hj => ?_⟩
    rcases Nat.lt_or_ge j k with q | q
    · exact h2 i j hij q
    · have : j = k := by omega
      subst this
      exact h i hij
  · refine .inr ⟨h1, by omega, h3, h4, fun i hi j hij hj => ?_, h6⟩
    rcases Nat.lt_or_ge j k with q | q
    · exact h5 i hi j hij q
    · have : j = k := by omega
      subst this
      exact h i hij
theorem nohit_empty (hf : l[k]? = some f) (h0 : inF f = []) (i : Nat) : ¬ Hit l i k := fun ⟨a, b, ha, hb, hh⟩ => by
  rw [hf] at hb
  injection hb with hb
  subst hb
  exact (hitF_iff.1 hh).2.2.1 h0
/-- The first of its kind. -/
theorem tab_new (hT : Tab l k ks) (hf : l[k]? = some f) (hn : inF f ≠ []) (hx : ∀ p ∈ ks, p.1 ≠ keyF f) : Tab l (k + 1) (ks ++ [(keyF f, k)]) := by
  refine ⟨fun p hp => ?_, fun i g hi hg hgn => ?_⟩
  · rcases List.mem_append.1 hp with hp | hp
    · exact ⟨first_mono (hT.1 p hp).1, (hT.1 p hp).2⟩
    · simp only [List.mem_singleton] at hp
      subst hp
      refine ⟨⟨by simp, f, hf, hn, fun i' hi' g hg hgn he => ?_⟩, f, hf, rfl⟩
      obtain ⟨p, hp, hpk⟩ := hT.2 i' g hi' hg hgn
      exact hx p hp (hpk.trans he)
  · rcases Nat.lt_or_ge i k with h | h
    · obtain ⟨p, hp, hpk⟩ := hT.2 i g h hg hgn
      exact ⟨p, by simp [hp], hpk⟩
    · have : i = k := by omega
      subst this
      rw [hf] at hg
      injection hg with hg
      subst hg
      exact ⟨(keyF f, i), by simp, rfl⟩
theorem nohit_new (hT : Tab l k ks) (hf : l[k]? = some f) (hx : ∀ p ∈ ks, p.1 ≠ keyF f) (i : Nat) (hi : i < k) : ¬ Hit l i k := fun ⟨a, b, ha, hb, hh⟩ => by
  rw [hf] at hb
  injection hb with hb
  subst hb
  obtain ⟨h1, h2, h3, h4⟩ := hitF_iff.1 hh
  obtain ⟨p, hp, hpk⟩ := hT.2 i a hi ha h2
  exact hx p hp (hpk.trans h1)
/-- One that is there already. -/
theorem tab_old {p : AbK × Nat} (hT : Tab l k ks) (hf : l[k]? = some f) (hp : p ∈ ks) (he : p.1 = keyF f) : Tab l (k + 1) ks :=
  ⟨fun p hp => ⟨first_mono (hT.1 p hp).1, (hT.1 p hp).2⟩, fun i g hi hg hgn => by
    rcases Nat.lt_or_ge i k with h | h
    · exact hT.2 i g h hg hgn
    · have : i = k := by omega
      subst this
      rw [hf] at hg
      injection hg with hg
      subst hg
      exact ⟨p, hp, he⟩⟩
theorem first_le {p : AbK × Nat} {i : Nat} {a : Ft} (hT : Tab l k ks) (hp : p ∈ ks) (ha : l[i]? = some a) (hn : inF a ≠ []) (hk : keyF a = p.1) : p.2 ≤ i := by
  obtain ⟨⟨_, f, hf, hfn, hmin⟩, f', hf', hk'⟩ := hT.1 p hp
  obtain rfl : f' = f := by rw [hf] at hf'; injection hf' with e; exact e.symm
  exact Nat.le_of_not_lt fun hlt => hmin i hlt a ha hn (hk.trans hk'.symm)
/-- Its first has the same input, or is not below the best: all stays. -/
theorem best_same {p : AbK × Nat} {g : Ft} (hT : Tab l k ks) (hB : BestF l k best other) (hf : l[k]? = some f) (hn : inF f ≠ []) (hp : p ∈ ks) (he : p.1 = keyF f) (hg : l[p.2]? = some g) (h : best ≤ p.2 ∨ inF g = inF f) : BestF l (k + 1) best other := by
  obtain ⟨⟨hpk, g', hg', hgn, _⟩, g2, hg2, hk2⟩ := hT.1 p hp
  obtain rfl : g' = g := by rw [hg] at hg'; injection hg' with e; exact e.symm
  obtain rfl : g2 = g' := by rw [hg] at hg2; injection hg2 with e; exact e.symm
  have key : ∀ i, i < k → Hit l i k → p.2 ≤ i ∧ (inF g2 = inF f → i ≠ p.2 ∧ Hit l p.2 i) := fun i hi ⟨a, b, ha, hb, hh⟩ => by
    rw [hf] at hb
    injection hb with hb
    subst hb
    obtain ⟨h1, h2, h3, h4⟩ := hitF_iff.1 hh
    refine ⟨first_le hT hp ha h2 (h1.trans he.symm), fun e => ?_⟩
    have hne : i ≠ p.2 := fun e2 => by
      subst e2
      rw [hg] at ha
      injection ha with ha
      subst ha
      exact h4 e
    exact ⟨hne, g2, a, hg, ha, hitF_iff.2 ⟨hk2.trans (he.trans h1.symm), hgn, h2, fun e3 => h4 (by rw [← e3, e])⟩⟩
  rcases hB with ⟨h1, h2⟩ | ⟨h1, h2, h3, h4, h5, h6⟩
  · refine best_skip (.inl ⟨h1, h2⟩) fun i hi hh => ?_
    obtain ⟨q1, q2⟩ := key i hi hh
    rcases h with h | h
    · have : p.2 < l.length := (List.getElem?_eq_some_iff.1 hg).1
      omega
    · obtain ⟨q3, q4⟩ := q2 h
      exact h2 p.2 i (by omega) hi q4
  · refine .inr ⟨h1, by omega, h3, h4, fun i hi j hij hj hh => ?_, h6⟩
    rcases Nat.lt_or_ge j k with q | q
    · exact h5 i hi j hij q hh
    · have : j = k := by omega
      subst this
      obtain ⟨q1, q2⟩ := key i hij hh
      rcases h with h | h
      · omega
      · obtain ⟨q3, q4⟩ := q2 h
        exact h5 p.2 (by omega) i (by omega) hij q4
/-- A better one. -/
theorem best_new {p : AbK × Nat} {g : Ft} (hT : Tab l k ks) (hB : BestF l k best other) (hf : l[k]? = some f) (hn : inF f ≠ []) (hp : p ∈ ks) (he : p.1 = keyF f) (hg : l[p.2]? = some g) (h1 : p.2 < best) (h2 : inF g ≠ inF f) : BestF l (k + 1) p.2 k := by
  obtain ⟨⟨hpk, g', hg', hgn, _⟩, g2, hg2, hk2⟩ := hT.1 p hp
  obtain rfl : g' = g := by rw [hg] at hg'; injection hg' with e; exact e.symm
  obtain rfl : g2 = g' := by rw [hg] at hg2; injection hg2 with e; exact e.symm
  have old : ∀ i, i < best → ∀ j, i < j → j < k → ¬ Hit l i j := by
    rcases hB with ⟨_, q⟩ | ⟨_, _, _, _, q, _⟩
    · exact fun i _ j hij hj => q i j hij hj
    · exact q
  refine .inr ⟨hpk, by omega, (List.getElem?_eq_some_iff.1 hg).1, ⟨g2, f, hg, hf, hitF_iff.2 ⟨hk2.trans he, hgn, hn, h2⟩⟩, fun i hi j hij hj hh => ?_, fun j hj hjk => old p.2 h1 j hj hjk⟩
  rcases Nat.lt_or_ge j k with q | q
  · exact old i (by omega) j hij q hh
  · have : j = k := by omega
    subst this
    obtain ⟨a, b, ha, hb, hab⟩ := hh
    rw [hf] at hb
    injection hb with hb
    subst hb
    obtain ⟨e1, e2, _, _⟩ := hitF_iff.1 hab
    have := first_le hT hp ha e2 (e1.trans he.symm)
    omega
end
theorem best_none {l : List Ft} {other : Nat} (h : BestF l l.length l.length other) : meetF l = none := by
  rcases h with ⟨_, h⟩ | ⟨_, _, h, _⟩
  · refine meet_none fun i j hij hh => ?_
    obtain ⟨a, b, ha, hb, _⟩ := hh
    exact h i j hij (List.getElem?_eq_some_iff.1 hb).1 ⟨a, b, ha, hb, by assumption⟩
  · omega
theorem best_some {l : List Ft} {best other : Nat} (h : BestF l l.length best other) (hne : best ≠ l.length) : ∃ a b, l[best]? = some a ∧ l[other]? = some b ∧ meetF l = some (inF a, inF b) := by
  rcases h with ⟨h, _⟩ | ⟨h1, h2, h3, h4, h5, h6⟩
  · exact absurd h hne
  · have ha := List.getElem?_eq_getElem h3
    have hb := List.getElem?_eq_getElem h2
    exact ⟨_, _, ha, hb, meet_least ⟨h1, h4, fun i' hi' j' hij hh => h5 i' hi' j' hij (by obtain ⟨a, b, _, q, _⟩ := hh; exact (List.getElem?_eq_some_iff.1 q).1) hh, h6⟩ ha hb⟩
end Go.Proofs.YtkdbinchlpdkmaaDoor

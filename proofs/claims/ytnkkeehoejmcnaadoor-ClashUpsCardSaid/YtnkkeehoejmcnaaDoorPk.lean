/- Peaks: plain words; leaf by leaf they are the roots of the whole trees. -/
import Derived.Test.YtnkkeehoejmcnaaDoorTree
import Derived.Test.YtnkkeehoejmcnaaDoorPop
set_option linter.unusedVariables false
set_option linter.unusedSimpArgs false
namespace Go.Proofs.YtnkkeehoejmcnaaDoor
open Go Go.RowKit Go.Proofs.E

section
variable {α : Type} (nd : α → α → α) (em : α)
/-- One leaf more: the last k tops go into one. -/
def addG (k : Nat) (ts : List α) (h : α) : List α := ts.take (ts.length - k) ++ [(ts.drop (ts.length - k)).foldr nd h]
/-- The root of tops. -/
def topG : List α → α
  | [] => em
  | [a] => a
  | a :: b :: r => nd a (topG (b :: r))
/-- The roots of the parts of l that are as long as ks say. -/
def pkL : List Int → List α → List α
  | [], _ => []
  | k :: ks, l => rootG nd em (l.take k.toNat) :: pkL ks (l.drop k.toNat)
def pkG (l : List α) : List α := pkL nd em (bitsDown l.length 63) l
variable {nd em}
theorem addG_len {k : Nat} {ts : List α} {h : α} : (addG nd k ts h).length = ts.length - k + 1 := by
  unfold addG
  rw [List.length_append, List.length_take]
  simp
theorem addG_cons {k : Nat} {a : α} {ts : List α} {h : α} (hk : k ≤ ts.length) : addG nd k (a :: ts) h = a :: addG nd k ts h := by
  unfold addG
  rw [List.length_cons, show ts.length + 1 - k = (ts.length - k) + 1 by omega]
  rfl
theorem topG_cons {a : α} {ts : List α} (h : ts ≠ []) : topG nd em (a :: ts) = nd a (topG nd em ts) := by
  cases ts with
  | nil => exact absurd rfl h
  | cons b r => rfl
theorem topG_snoc {t : α} : ∀ ts : List α, topG nd em (ts ++ [t]) = ts.foldr nd t
  | [] => rfl
  | a :: ts => by
    rw [List.cons_append, topG_cons (by simp), topG_snoc ts]
    rfl
theorem pkL_len : ∀ (ks : List Int) (l : List α), (pkL nd em ks l).length = ks.length
  | [], _ => rfl
  | k :: ks, l => by rw [pkL, List.length_cons, List.length_cons, pkL_len ks]
theorem pkG_len (l : List α) : (pkG nd em l).length = popN l.length := pkL_len _ _
theorem pkG_nil : pkG nd em [] = [] := by
  unfold pkG
  rw [List.length_nil, show bitsDown 0 63 = [] by decide]
  rfl
theorem pkG_top {l : List α} {k : Nat} (h1 : 2 ^ k ≤ l.length) (h2 : l.length < 2 ^ (k + 1)) (hk : k < 63) : pkG nd em l = rootG nd em (l.take (2 ^ k)) :: pkG nd em (l.drop (2 ^ k)) := by
  unfold pkG
  have e : ((2 : Int) ^ k).toNat = 2 ^ k := by
    have : ((2 : Int) ^ k) = ((2 ^ k : Nat) : Int) := by simp
    rw [this, Int.toNat_natCast]
  rw [bitsDown_top h1 h2 hk, pkL, e, List.length_drop]
theorem len_top {n : Nat} (h0 : 0 < n) (h : n ≤ 1000000000) : ∃ k, 2 ^ k ≤ n ∧ n < 2 ^ (k + 1) ∧ k < 63 := by
  obtain ⟨k, hk, h1, h3, h4⟩ := bitLen_spec (u := n) h0 (by omega)
  refine ⟨k, h1, h3, ?_⟩
  rcases Nat.lt_or_ge k 63 with h | h
  · exact h
  · have : 2 ^ 63 ≤ 2 ^ k := Nat.pow_le_pow_right (by omega) h
    omega
theorem topG_pk (n : Nat) : ∀ l : List α, l.length = n → l ≠ [] → n ≤ 1000000000 → topG nd em (pkG nd em l) = rootG nd em l := by
  induction n using Nat.strongRecOn with
  | _ n ih =>
    intro l hl hne hb
    have h0 : 0 < l.length := List.length_pos_iff.2 hne
    obtain ⟨k, h1, h2, hk⟩ := len_top h0 (by omega)
    have hp := Nat.one_le_two_pow (n := k)
    rw [pkG_top h1 h2 hk]
    by_cases he : l.length = 2 ^ k
    · rw [List.drop_of_length_le (by omega), pkG_nil, List.take_of_length_le (by omega)]
      rfl
    · have hd : l.drop (2 ^ k) ≠ [] := fun e => by
        have := congrArg List.length e
        rw [List.length_drop] at this
        simp at this
        omega
      have hd2 : pkG nd em (l.drop (2 ^ k)) ≠ [] := fun e => by
        have h3 : 0 < (l.drop (2 ^ k)).length := List.length_pos_iff.2 hd
        obtain ⟨j, j1, j2, j3⟩ := len_top h3 (by rw [List.length_drop]; omega)
        rw [pkG_top j1 j2 j3] at e
        cases e
      rw [topG_cons hd2, ih (l.drop (2 ^ k)).length (by rw [List.length_drop]; omega) _ rfl hd (by rw [List.length_drop]; omega)]
      rw [rootG_two (l := l) (by omega) (by omega), splitN_eq (j := k) (by omega) (by omega) (by omega)]
theorem fold_pk {h : α} : ∀ (k : Nat) (l : List α), l.length + 1 = 2 ^ k → k ≤ 29 → (pkG nd em l).foldr nd h = rootG nd em (l ++ [h])
  | 0, l, hl, _ => by
    have : l = [] := List.eq_nil_of_length_eq_zero (by omega)
    subst this
    rw [pkG_nil]
    rfl
  | k + 1, l, hl, hk => by
    have hp := Nat.one_le_two_pow (n := k)
    have hp2 : 2 ^ (k + 1) = 2 ^ k + 2 ^ k := by rw [Nat.pow_succ]; omega
    have h30 : 2 ^ (k + 1) ≤ 2 ^ 29 := Nat.pow_le_pow_right (by omega) hk
    rw [pkG_top (k := k) (by omega) (by omega) (by omega), List.foldr_cons, fold_pk k _ (by rw [List.length_drop]; omega) (by omega)]
    rw [rootG_two (l := l ++ [h]) (by simp; omega) (by simp; omega), splitN_eq (j := k) (by simp; omega) (by simp; omega) (by simp; omega)]
    rw [List.take_append_of_le_length (by omega), List.drop_append_of_le_length (by omega)]
theorem tonesF_all : ∀ (j f : Nat), j ≤ f → tonesF f (2 ^ j - 1) = j ∧ (bitsDown (2 ^ j - 1) f).length = j
  | 0, 0, _ => ⟨rfl, rfl⟩
  | 0, f + 1, _ => by
    have := (tonesF_all 0 f (by omega)).2
    rw [tonesF, len_half]
    simpa using this
  | j + 1, 0, h => by omega
  | j + 1, f + 1, h => by
    obtain ⟨h1, h2⟩ := tonesF_all j f (by omega)
    have hp := Nat.one_le_two_pow (n := j)
    have hp2 : 2 ^ (j + 1) = 2 ^ j + 2 ^ j := by rw [Nat.pow_succ]; omega
    rw [tonesF, len_half, show (2 ^ (j + 1) - 1) / 2 = 2 ^ j - 1 by omega, if_pos (by omega), h1, h2]
    omega
theorem tones_top : ∀ (k f r : Nat), r + 1 < 2 ^ k → tonesF f (2 ^ k + r) = tonesF f r
  | 0, f, r, h => by omega
  | k + 1, 0, r, h => rfl
  | k + 1, f + 1, r, h => by
    have hp2 : 2 ^ (k + 1) = 2 ^ k + 2 ^ k := by rw [Nat.pow_succ]; omega
    rw [tonesF, tonesF, show (2 ^ (k + 1) + r) % 2 = r % 2 by omega]
    split
    · rw [show (2 ^ (k + 1) + r) / 2 = 2 ^ k + r / 2 by omega, tones_top k f (r / 2) (by omega)]
    · rfl
/-- One leaf more. -/
theorem add_pk (n : Nat) : ∀ (l : List α) (h : α), l.length = n → n < 1000 → addG nd (tones l.length) (pkG nd em l) h = pkG nd em (l ++ [h]) := by
  induction n using Nat.strongRecOn with
  | _ n ih =>
    intro l h hl hb
    obtain ⟨k, h1, h2, hk⟩ := len_top (n := l.length + 1) (by omega) (by omega)
    have hk2 : k < 11 := by
      rcases Nat.lt_or_ge k 11 with h | h
      · exact h
      · have : 2 ^ 11 ≤ 2 ^ k := Nat.pow_le_pow_right (by omega) h
        omega
    have hp := Nat.one_le_two_pow (n := k)
    have hp2 : 2 ^ (k + 1) = 2 ^ k + 2 ^ k := by rw [Nat.pow_succ]; omega
    have htop : pkG nd em (l ++ [h]) = rootG nd em ((l ++ [h]).take (2 ^ k)) :: pkG nd em ((l ++ [h]).drop (2 ^ k)) := pkG_top (by simp; omega) (by simp; omega) hk
    by_cases he : l.length + 1 = 2 ^ k
    · have e1 := tonesF_all k 64 (by omega)
      have e2 := tonesF_all k 63 (by omega)
      rw [show 2 ^ k - 1 = l.length by omega] at e1 e2
      have e3 : (pkG nd em l).length = k := (pkG_len l).trans e2.2
      rw [htop, List.take_of_length_le (by simp; omega), List.drop_of_length_le (by simp; omega), pkG_nil]
      unfold addG tones
      rw [e1.1, e3, Nat.sub_self, List.take_zero, List.drop_zero, fold_pk k l he (by omega)]
      rfl
    · have hr : tones l.length = tones (l.drop (2 ^ k)).length := by
        rw [List.length_drop]
        have := tones_top k 64 (l.length - 2 ^ k) (by omega)
        rw [show 2 ^ k + (l.length - 2 ^ k) = l.length by omega] at this
        exact this
      have hlen := pkG_len (nd := nd) (em := em) (l.drop (2 ^ k))
      have hle := (tones_le (n := (l.drop (2 ^ k)).length) (by rw [List.length_drop]; omega)).1
      rw [htop, pkG_top (l := l) (by omega) (by omega) hk, hr, addG_cons (by omega), ih (l.drop (2 ^ k)).length (by rw [List.length_drop]; omega) _ _ rfl (by rw [List.length_drop]; omega)]
      rw [List.take_append_of_le_length (by omega), List.drop_append_of_le_length (by omega)]
end
def addH (k : Nat) (ts : List Hs) (h : Hs) : List Hs := addG nodeH k ts h
def topH (ts : List Hs) : Hs := topG nodeH emptyH ts
def pkH (l : List Hs) : List Hs := pkG nodeH emptyH l
end Go.Proofs.YtnkkeehoejmcnaaDoor

/- Walks: the way down to a leaf; a row turned round. -/
import Derived.Test.YtoimhmphhffelaaGreatDoorQReceiptBytes20
import Derived.Test.YtoimhmphhffelaaGreatDoorQReceiptBytes04
set_option linter.unusedVariables false
set_option linter.unusedSimpArgs false
namespace Go.Proofs.E
open Go Go.RowKit
section
variable {P : Program} {ops : Array Oper} {Q : Exit → Act → World → Prop} {rest : List Oper} {l : List Value} {w : World} {op : Op} {T : TypeId} {pos : String} {after : Array Edge}
end
end Go.Proofs.E
namespace Go.Proofs.YtoimhmphhffelaaGreatDoor
open Go Go.RowKit Go.Proofs.E
attribute [local irreducible] Go.wpList Go.Code.wp Go.Proofs.E.exec Go.Proofs.E.wpLexG
/-- A way down one node: how many leaves stand there, and whether it goes to the right. -/
abbrev eT : En (Nat × Bool) := { f := fun t => [.int .i64 (t.1 : Int), .bool t.2], n := 2, hl := fun _ => rfl, h1 := fun t u hu => by simp at hu; rcases hu with rfl | rfl <;> rfl }
def turnsF : Nat → Nat → Nat → List (Nat × Bool)
  | 0, _, _ => []
  | f + 1, n, i => if n ≤ 1 then [] else if i < splitN n then (n, false) :: turnsF f (splitN n) i else (n, true) :: turnsF f (n - splitN n) (i - splitN n)
def turnsN (n i : Nat) : List (Nat × Bool) := turnsF n n i
theorem turnsF_any : ∀ (f g n i : Nat), n ≤ f → n ≤ g → n ≤ 9223372036854775807 → turnsF f n i = turnsF g n i
  | 0, 0, n, i, _, _, _ => rfl
  | 0, g + 1, n, i, h, _, _ => by rw [turnsF, turnsF, if_pos (by omega)]
  | f + 1, 0, n, i, _, h, _ => by rw [turnsF, turnsF, if_pos (by omega)]
  | f + 1, g + 1, n, i, hf, hg, hb => by
    rw [turnsF, turnsF]
    by_cases h : n ≤ 1
    · rw [if_pos h, if_pos h]
    · rw [if_neg h, if_neg h]
      have := splitN_lt (n := n) (by omega) hb
      rw [turnsF_any f g (splitN n) i (by omega) (by omega) (by omega), turnsF_any f g (n - splitN n) (i - splitN n) (by omega) (by omega) (by omega)]
theorem turns_one {n i : Nat} (h : n ≤ 1) : turnsN n i = [] := by
  unfold turnsN
  cases n with
  | zero => rfl
  | succ n => rw [turnsF, if_pos h]
theorem turns_left {n i : Nat} (h2 : 2 ≤ n) (hb : n ≤ 9223372036854775807) (hi : i < splitN n) : turnsN n i = (n, false) :: turnsN (splitN n) i := by
  have := splitN_lt h2 hb
  unfold turnsN
  obtain ⟨f, rfl⟩ : ∃ f, n = f + 1 := ⟨n - 1, by omega⟩
  conv => lhs; rw [turnsF]
  rw [if_neg (by omega), if_pos hi, turnsF_any f (splitN (f + 1)) _ i (by omega) (Nat.le_refl _) (by omega)]
theorem turns_right {n i : Nat} (h2 : 2 ≤ n) (hb : n ≤ 9223372036854775807) (hi : ¬ i < splitN n) : turnsN n i = (n, true) :: turnsN (n - splitN n) (i - splitN n) := by
  have := splitN_lt h2 hb
  unfold turnsN
  obtain ⟨f, rfl⟩ : ∃ f, n = f + 1 := ⟨n - 1, by omega⟩
  conv => lhs; rw [turnsF]
  rw [if_neg (by omega), if_neg hi, turnsF_any f (f + 1 - splitN (f + 1)) _ _ (by omega) (Nat.le_refl _) (by omega)]
theorem turnsF_len : ∀ f n i, (turnsF f n i).length ≤ f
  | 0, _, _ => Nat.le_refl _
  | f + 1, n, i => by
    rw [turnsF]
    split
    · simp
    · split
      · have := turnsF_len f (splitN n) i
        simp
        omega
      · have := turnsF_len f (n - splitN n) (i - splitN n)
        simp
        omega
theorem turns_len (n i : Nat) : (turnsN n i).length ≤ n := turnsF_len n n i
set_option maxHeartbeats 4000000 in
theorem turns_any (n i : Nat) (hn : n ≤ 1099511627776) (hi : i < n) (w : World) :
    Calls Tryz.prog 186 #[.int .i64 (n : Int), .int .i64 (i : Int)] w (Ret fun v w' => Ch [] w w' ∧ Own eT w' w.heap.size 209 v (turnsN n i)) := by
  refine enter [.int .i64 (n : Int), .int .i64 (i : Int), undef, undef, undef, undef, undef, undef, undef, undef, undef, undef, undef, undef, undef, undef, undef, undef, undef, undef, undef, undef, undef, undef, undef, undef, undef, undef, undef, undef, undef, undef] Tryz.func186 rfl rfl ?_
  (try refine wk ?_)
  have hbl := turns_len n i
  
  refine c_loop (fun k l w' => ∃ (n' i' : Nat) (v : Value) (xs : List (Nat × Bool)), (∃ jj : Nat → Value, l = [.int .i64 (n' : Int), .int .i64 (i' : Int), jj 2, jj 3, jj 4, v, jj 6, jj 7, jj 8, jj 9, jj 10, jj 11, jj 12, jj 13, jj 14, jj 15, jj 16, jj 17, jj 18, jj 19, jj 20, jj 21, jj 22, jj 23, jj 24, jj 25, jj 26, jj 27, jj 28, jj 29, jj 30, jj 31]) ∧ k = n' ∧ n' ≤ 1099511627776 ∧ i' < n' ∧ xs ++ turnsN n' i' = turnsN n i ∧ Ch [] w w' ∧ Own eT w' w.heap.size 209 v xs) n
    ⟨n, i, _, [], exj rfl, rfl, hn, hi, rfl, Ch.refl _ _, Own.nil _ _ _ _⟩ ?_
  rintro k l w1 ⟨n', i', v, xs, ⟨jj, rfl⟩, rfl, hn', hi', hxs, hc1, hO⟩
  have hxl := congrArg List.length hxs
  rw [List.length_append] at hxl
  (try refine wk ?_)
  refine c_cond rfl (fun h1 => ?_) (fun h1 => ?_)
  · obtain ⟨hk0, hk1⟩ := splitN_lt (n := k) (by omega) (by omega)
    (try refine wk ?_)
    (try ((with_reducible apply is_gd); first | refine gt ?_ | refine gf ?_ | refine gu ?_)); refine ca (split_any (k : Int) (by omega) w1) ?_
    rintro _ w2 ⟨rfl, hw2⟩
    subst hw2
    rw [splitZ_nat]
    (try refine wk ?_)
    refine c_cond rfl (fun h2 => ?_) (fun h2 => ?_)
    · have htu := turns_left (n := k) (i := i') (by omega) (by omega) (by omega)
      rw [htu, List.length_cons] at hxl
      (try refine wk ?_)
      (try ((with_reducible apply is_gd); first | refine gt ?_ | refine gf ?_ | refine gu ?_)); refine wl_val (r_build2 Tryz.underlying209 rfl rfl rfl rfl rfl rfl rfl rfl rfl rfl) ?_
      (try ((with_reducible apply is_gd); first | refine gt ?_ | refine gf ?_ | refine gu ?_)); refine pu (k, false) hO hc1.size (fun _ v3 w3 hO3 hch3 hat3 => ?_)
      have hc3 : Ch [] w w3 := hc1.trans hch3 (by simp) (fun x hx hm => by
        have := (hO.lt (k := x) (by simpa using hm)).1
        omega)
      (try refine wk ?_)
      exact x_goes (splitN k) rfl (by omega) ⟨splitN k, i', v3, xs ++ [(k, false)], exj rfl, rfl, by omega, by omega, by rw [List.append_assoc]; rw [htu] at hxs; exact hxs, hc3, hO3⟩
    · have htu := turns_right (n := k) (i := i') (by omega) (by omega) (by omega)
      rw [htu, List.length_cons] at hxl
      (try refine wk ?_)
      (try ((with_reducible apply is_gd); first | refine gt ?_ | refine gf ?_ | refine gu ?_)); refine wl_val (r_build2 Tryz.underlying209 rfl rfl rfl rfl rfl rfl rfl rfl rfl rfl) ?_
      (try ((with_reducible apply is_gd); first | refine gt ?_ | refine gf ?_ | refine gu ?_)); refine pu (k, true) hO hc1.size (fun _ v3 w3 hO3 hch3 hat3 => ?_)
      have hc3 : Ch [] w w3 := hc1.trans hch3 (by simp) (fun x hx hm => by
        have := (hO.lt (k := x) (by simpa using hm)).1
        omega)
      (try refine wk ?_)
      exact x_goes (k - splitN k) rfl (by omega) ⟨k - splitN k, i' - splitN k, v3, xs ++ [(k, true)], exj (by rw [show ((k - splitN k : Nat) : Int) = (k : Int) - (splitN k : Int) by omega, show ((i' - splitN k : Nat) : Int) = (i' : Int) - (splitN k : Int) by omega]; rfl), rfl, by omega, by omega, by rw [List.append_assoc]; rw [htu] at hxs; exact hxs, hc3, hO3⟩
  · (try refine wk ?_)
    rw [turns_one (by omega), List.append_nil] at hxs
    refine out1 rfl ⟨hc1, ?_⟩
    rw [← hxs]
    exact hO
/-! ### A row turned round -/
/-- The first i and the last i have changed places. -/
def Turned {α : Type} (xs ys : List α) (i : Nat) : Prop := ys.length = xs.length ∧ ∀ p, p < xs.length → ys[p]? = if p < i ∨ xs.length ≤ p + i then xs[xs.length - 1 - p]? else xs[p]?
theorem Turned.all {α : Type} {xs ys : List α} {i : Nat} (h : Turned xs ys i) (hi : xs.length ≤ i + i + 1) : ys = xs.reverse := by
  apply List.ext_getElem?
  intro p
  by_cases hp : p < xs.length
  · rw [h.2 p hp, List.getElem?_reverse hp]
    split
    · rfl
    · congr 1
      omega
  · rw [List.getElem?_eq_none (by rw [h.1]; omega), List.getElem?_eq_none (by rw [List.length_reverse]; omega)]
theorem Turned.step {α : Type} {xs ys : List α} {i : Nat} {a b : α} (h : Turned xs ys i) (hi : i + i + 1 < xs.length) (ha : ys[xs.length - 1 - i]? = some a) (hb : ys[i]? = some b) : Turned xs ((ys.set i a).set (xs.length - 1 - i) b) (i + 1) := by
  refine ⟨by simp [h.1], fun p hp => ?_⟩
  rw [h.2 _ (by omega), if_neg (by omega)] at ha hb
  by_cases h1 : p = xs.length - 1 - i
  · subst h1
    rw [List.getElem?_set_self (by simp [h.1]; omega), if_pos (by omega), show xs.length - 1 - (xs.length - 1 - i) = i by omega, hb]
  · rw [List.getElem?_set_ne (Ne.symm h1)]
    by_cases h2 : p = i
    · subst h2
      rw [List.getElem?_set_self (by rw [h.1]; omega), if_pos (by omega), ha]
    · rw [List.getElem?_set_ne (Ne.symm h2), h.2 p hp]
      by_cases h3 : p < i ∨ xs.length ≤ p + i
      · rw [if_pos h3, if_pos (by omega)]
      · rw [if_neg h3, if_neg (by omega)]
end Go.Proofs.YtoimhmphhffelaaGreatDoor

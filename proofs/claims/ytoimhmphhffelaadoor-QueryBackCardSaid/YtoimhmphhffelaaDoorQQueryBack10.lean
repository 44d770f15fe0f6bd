/- Plain, of law 34: a query's words, numbers, texts; what is read of a text, and what is printed.
   Plain, of law 34: how words are read as a query, how a query is printed; what is printed is read again. -/
import Derived.Test.YtoimhmphhffelaaDoorQQueryBack09
import Derived.Lib.ItoaNum
import Derived.Lib.Atoi
import Derived.Lib.Join
set_option linter.unusedVariables false
set_option linter.unusedSimpArgs false
namespace Go.Proofs.E
open Go
/-! ### Words -/
def wlen : List UInt8 → Nat
  | [] => 0
  | c :: t => if c = 39 then (1 + (t.takeWhile (fun x => x != 39)).length) + (((c :: t).drop (1 + (t.takeWhile (fun x => x != 39)).length)).takeWhile (fun x => x != 32)).length
    else ((c :: t).takeWhile (fun x => x != 32)).length
def wordsF : Nat → List UInt8 → List (List UInt8)
  | 0, _ => []
  | n + 1, s => match s.dropWhile (fun x => x == 32) with
    | [] => []
    | c :: t => (c :: t).take (wlen (c :: t)) :: wordsF n ((c :: t).drop (wlen (c :: t)))
def wordsB (s : List UInt8) : List (List UInt8) := wordsF s.length s
theorem wlen_cons (c : UInt8) (t : List UInt8) : wlen (c :: t) = if c = 39 then (1 + (t.takeWhile (fun x => x != 39)).length) + (((c :: t).drop (1 + (t.takeWhile (fun x => x != 39)).length)).takeWhile (fun x => x != 32)).length
    else ((c :: t).takeWhile (fun x => x != 32)).length := rfl
theorem dropWhile_le (p : UInt8 → Bool) : ∀ s : List UInt8, (s.dropWhile p).length ≤ s.length
  | [] => Nat.le_refl _
  | c :: t => by
    rw [List.dropWhile_cons]
    split
    · exact Nat.le_succ_of_le (dropWhile_le p t)
    · exact Nat.le_refl _
theorem dropWhile_head {p : UInt8 → Bool} : ∀ {s : List UInt8} {c : UInt8} {t : List UInt8}, s.dropWhile p = c :: t → p c = false
  | [], _, _, h => by cases h
  | a :: s, c, t, h => by
    rw [List.dropWhile_cons] at h
    split at h
    · exact dropWhile_head h
    · injection h with h1 h2
      subst h1
      simpa using ‹¬ p a = true›
theorem wlen_pos {c : UInt8} {t : List UInt8} (h : c ≠ 32) : 0 < wlen (c :: t) := by
  rw [wlen_cons]
  split
  · omega
  · rw [List.takeWhile_cons, if_pos (by simpa using h)]
    simp
theorem takeWhile_le (p : UInt8 → Bool) (s : List UInt8) : (s.takeWhile p).length ≤ s.length := by
  have := List.takeWhile_append_dropWhile (p := p) (l := s)
  have h2 := congrArg List.length this
  rw [List.length_append] at h2
  omega
theorem wlen_le : ∀ s : List UInt8, wlen s ≤ s.length
  | [] => Nat.le_refl _
  | c :: t => by
    rw [wlen_cons]
    have h1 := takeWhile_le (fun x => x != 39) t
    split
    · have h2 := takeWhile_le (fun x => x != 32) ((c :: t).drop (1 + (t.takeWhile (fun x => x != 39)).length))
      rw [List.length_drop] at h2
      simp only [List.length_cons] at h2 ⊢
      omega
    · exact takeWhile_le _ _
theorem wordsF_eq : ∀ {n m : Nat} {s : List UInt8}, s.length ≤ n → s.length ≤ m → wordsF n s = wordsF m s
  | 0, 0, _, _, _ => rfl
  | 0, m + 1, s, h, _ => by
    have : s = [] := List.eq_nil_of_length_eq_zero (by omega)
    subst this
    rfl
  | n + 1, 0, s, _, h => by
    have : s = [] := List.eq_nil_of_length_eq_zero (by omega)
    subst this
    rfl
  | n + 1, m + 1, s, h1, h2 => by
    unfold wordsF
    cases hd : s.dropWhile (fun x => x == 32) with
    | nil => rfl
    | cons c t =>
      have hc : c ≠ 32 := by simpa using dropWhile_head hd
      have hp := wlen_pos (t := t) hc
      have hl := dropWhile_le (fun x => x == 32) s
      rw [hd] at hl
      have hdl : ((c :: t).drop (wlen (c :: t))).length = (c :: t).length - wlen (c :: t) := List.length_drop
      simp only
      rw [wordsF_eq (n := n) (m := m) (by omega) (by omega)]
theorem words_end {s : List UInt8} (h : s.dropWhile (fun x => x == 32) = []) : wordsB s = [] := by
  unfold wordsB
  cases hl : s.length with
  | zero => rfl
  | succ n => unfold wordsF; rw [h]
theorem words_step {s : List UInt8} {c : UInt8} {t : List UInt8} (h : s.dropWhile (fun x => x == 32) = c :: t) : wordsB s = (c :: t).take (wlen (c :: t)) :: wordsB ((c :: t).drop (wlen (c :: t))) := by
  have hc : c ≠ 32 := by simpa using dropWhile_head h
  have hp := wlen_pos (t := t) hc
  have hl := dropWhile_le (fun x => x == 32) s
  rw [h] at hl
  have hdl : ((c :: t).drop (wlen (c :: t))).length = (c :: t).length - wlen (c :: t) := List.length_drop
  unfold wordsB
  cases hs : s.length with
  | zero => rw [hs] at hl; simp at hl
  | succ n =>
    rw [wordsF, h]
    simp only
    rw [wordsF_eq (n := n) (m := ((c :: t).drop (wlen (c :: t))).length) (by omega) (Nat.le_refl _)]
theorem words_blank (s : List UInt8) : wordsB (32 :: s) = wordsB s := by
  have h : (32 :: s).dropWhile (fun x => x == 32) = s.dropWhile (fun x => x == 32) := rfl
  cases hd : s.dropWhile (fun x => x == 32) with
  | nil => rw [words_end (h.trans hd), words_end hd]
  | cons c t => rw [words_step (h.trans hd), words_step hd]
theorem words_word {c : UInt8} {t : List UInt8} (h : c ≠ 32) : wordsB (c :: t) = (c :: t).take (wlen (c :: t)) :: wordsB ((c :: t).drop (wlen (c :: t))) :=
  words_step (by rw [List.dropWhile_cons, if_neg (by simpa using h)])
/-- Behind it a word ends. -/
def Ends (r : List UInt8) : Prop := r = [] ∨ r.head? = some 32
/-- A word that stays one. -/
def Wd (x : List UInt8) : Prop := (∃ c t, x = c :: t ∧ c ≠ 32) ∧ ∀ r, Ends r → wlen (x ++ r) = x.length
theorem takeWhile_all {p : UInt8 → Bool} : ∀ {x r : List UInt8}, (∀ c ∈ x, p c = true) → (r = [] ∨ ∃ c t, r = c :: t ∧ p c = false) → (x ++ r).takeWhile p = x
  | [], r, _, h => by
    rcases h with rfl | ⟨c, t, rfl, hc⟩
    · rfl
    · rw [List.nil_append, List.takeWhile_cons, if_neg (by rw [hc]; simp)]
  | a :: x, r, hx, h => by
    rw [List.cons_append, List.takeWhile_cons, if_pos (hx a (by simp)), takeWhile_all (fun c hc => hx c (by simp [hc])) h]
theorem ends_p {r : List UInt8} (h : Ends r) : r = [] ∨ ∃ c t, r = c :: t ∧ (c != 32) = false := by
  rcases h with rfl | h
  · exact .inl rfl
  · cases r with
    | nil => cases h
    | cons c t => exact .inr ⟨c, t, rfl, by simpa using h⟩
theorem wd_plain {x : List UInt8} (h0 : x ≠ []) (h1 : x.head? ≠ some 39) (h2 : ∀ c ∈ x, c ≠ 32) : Wd x := by
  cases x with
  | nil => exact absurd rfl h0
  | cons c t =>
    refine ⟨⟨c, t, rfl, h2 c (by simp)⟩, fun r hr => ?_⟩
    have hc : c ≠ 39 := by simpa using h1
    rw [List.cons_append]
    rw [wlen_cons]
    rw [if_neg hc, ← List.cons_append, takeWhile_all (fun c hc => by simpa using h2 c hc) (ends_p hr)]
theorem wd_quoted {b : List UInt8} (h : ∀ c ∈ b, c ≠ 39) : Wd (39 :: (b ++ [39])) := by
  refine ⟨⟨39, _, rfl, by decide⟩, fun r hr => ?_⟩
  have e1 : (b ++ [39] ++ r).takeWhile (fun x => x != 39) = b := by
    rw [List.append_assoc]
    exact takeWhile_all (fun c hc => by simpa using h c hc) (.inr ⟨39, r, rfl, rfl⟩)
  rw [List.cons_append]
  rw [wlen_cons]
  rw [if_pos rfl, e1]
  have e2 : (39 :: (b ++ [39] ++ r)).drop (1 + b.length) = [39] ++ r := by
    rw [Nat.add_comm, List.drop_succ_cons, List.append_assoc, List.drop_left' rfl]
  rw [e2, takeWhile_all (fun c hc => by simp at hc; subst hc; rfl) (ends_p hr)]
  simp
  omega
theorem words_tail : ∀ {ws : List (List UInt8)}, (∀ x ∈ ws, Wd x) → wordsB (Lib.joinTail [32] ws) = ws ∧ Ends (Lib.joinTail [32] ws)
  | [], _ => ⟨rfl, .inl rfl⟩
  | x :: ws, h => by
    obtain ⟨ih, he⟩ := words_tail (ws := ws) fun y hy => h y (by simp [hy])
    obtain ⟨⟨c, t, rfl, hc⟩, hw⟩ := h x (by simp)
    have e : Lib.joinTail [32] ((c :: t) :: ws) = 32 :: ((c :: t) ++ Lib.joinTail [32] ws) := by simp [Lib.joinTail]
    rw [e]
    refine ⟨?_, .inr rfl⟩
    rw [words_blank, List.cons_append, words_word hc, ← List.cons_append, hw _ he, List.take_left' rfl, List.drop_left' rfl, ih]
theorem words_join {ws : List (List UInt8)} (h : ∀ x ∈ ws, Wd x) : wordsB (Lib.join ws [32]) = ws := by
  cases ws with
  | nil => rfl
  | cons x ws =>
    obtain ⟨ih, he⟩ := words_tail (ws := ws) fun y hy => h y (by simp [hy])
    obtain ⟨⟨c, t, rfl, hc⟩, hw⟩ := h x (by simp)
    rw [Lib.join_cons, List.cons_append, words_word hc, ← List.cons_append, hw _ he, List.take_left' rfl, List.drop_left' rfl, ih]
/-! ### Numbers -/
def numQ (s : List UInt8) : Option Nat := if s.length ≤ 9 then Lib.decNat s else none
theorem digit_of {n : Nat} (h : n < 10) : Lib.digitVal (UInt8.ofNat (48 + n)) = some n := by
  unfold Lib.digitVal
  have : (UInt8.ofNat (48 + n)).toNat = 48 + n := by
    rw [UInt8.toNat_ofNat']
    omega
  rw [this, if_pos (by omega)]
  congr 1
  omega
theorem decFrom_app : ∀ (a : Nat) (x y : List UInt8) (m : Nat), Lib.decFrom a x = some m → Lib.decFrom a (x ++ y) = Lib.decFrom m y
  | a, [], y, m, h => by injection h with h; subst h; rfl
  | a, c :: x, y, m, h => by
    rw [List.cons_append]
    rw [Lib.decFrom] at h ⊢
    cases hd : Lib.digitVal c with
    | none => rw [hd] at h; cases h
    | some d =>
      rw [hd] at h
      exact decFrom_app _ x y m h
theorem decFrom_digits (n : Nat) : Lib.decFrom 0 (Lib.decDigits n) = some n := by
  induction n using Nat.strongRecOn with
  | _ n ih =>
    rw [Lib.decDigits]
    split
    · rename_i h
      unfold Lib.decFrom
      rw [digit_of h]
      simp [Lib.decFrom]
    · rename_i h
      rw [decFrom_app _ _ _ _ (ih (n / 10) (by omega))]
      unfold Lib.decFrom
      rw [digit_of (by omega)]
      simp only [Lib.decFrom]
      congr 1
      omega
theorem digits_ne (n : Nat) : Lib.decDigits n ≠ [] := by
  rw [Lib.decDigits]
  split <;> simp
theorem digits_mem {n : Nat} : ∀ c ∈ Lib.decDigits n, 48 ≤ c.toNat ∧ c.toNat ≤ 57 := by
  induction n using Nat.strongRecOn with
  | _ n ih =>
    intro c hc
    rw [Lib.decDigits] at hc
    have hu : ∀ d, d < 10 → (UInt8.ofNat (48 + d)).toNat = 48 + d := fun d hd => by rw [UInt8.toNat_ofNat']; omega
    split at hc
    · rename_i h
      have hc : c = UInt8.ofNat (48 + n) := by simpa using hc
      rw [hc, hu n h]
      omega
    · rename_i h
      rcases List.mem_append.1 hc with hc | hc
      · exact ih (n / 10) (by omega) c hc
      · have hc : c = UInt8.ofNat (48 + n % 10) := by simpa using hc
        rw [hc, hu _ (by omega)]
        omega
theorem digits_len : ∀ (k n : Nat), n < 10 ^ (k + 1) → (Lib.decDigits n).length ≤ k + 1
  | 0, n, h => by
    rw [Lib.decDigits, dif_pos (by omega)]
    exact Nat.le_refl _
  | k + 1, n, h => by
    rw [Lib.decDigits]
    split
    · simp
    · have := digits_len k (n / 10) (by rw [Nat.pow_succ] at h; omega)
      rw [List.length_append]
      simp
      omega
theorem num_digits {n : Nat} (h : n ≤ 999999999) : numQ (Lib.decDigits n) = some n := by
  unfold numQ
  rw [if_pos (digits_len 8 n (by omega))]
  unfold Lib.decNat
  rw [if_neg (by simpa using digits_ne n), decFrom_digits]
theorem digitVal_lt {c : UInt8} {d : Nat} (h : Lib.digitVal c = some d) : d ≤ 9 := by
  unfold Lib.digitVal at h
  split at h
  · injection h with h
    omega
  · cases h
theorem decFrom_lt : ∀ {x : List UInt8} {a m k : Nat}, a < 10 ^ k → Lib.decFrom a x = some m → m < 10 ^ (k + x.length)
  | [], a, m, k, h, e => by injection e with e; subst e; simpa using h
  | c :: x, a, m, k, h, e => by
    unfold Lib.decFrom at e
    split at e
    · rename_i d hd
      have := digitVal_lt hd
      have h2 := decFrom_lt (k := k + 1) (by rw [Nat.pow_succ]; omega) e
      rwa [show k + 1 + x.length = k + (c :: x).length by simp; omega] at h2
    · cases e
theorem num_le {s : List UInt8} {n : Nat} (h : numQ s = some n) : n ≤ 999999999 := by
  unfold numQ at h
  split at h
  · rename_i hl
    unfold Lib.decNat at h
    split at h
    · cases h
    · have := decFrom_lt (k := 0) (by omega) h
      have h2 : 10 ^ (0 + s.length) ≤ 10 ^ 9 := Nat.pow_le_pow_right (by omega) (by omega)
      omega
  · cases h
theorem wd_digits (n : Nat) : Wd (Lib.decDigits n) := by
  refine wd_plain (digits_ne n) (fun h => ?_) (fun c hc e => ?_)
  · have := digits_mem (n := n) 39 (List.mem_of_mem_head? h)
    simp at this
  · subst e
    have := digits_mem (n := n) 32 hc
    simp at this
/-! ### Texts -/
def hexv (c : UInt8) : Option Nat := if 48 ≤ c.toNat ∧ c.toNat ≤ 57 then some (c.toNat - 48) else if 97 ≤ c.toNat ∧ c.toNat ≤ 102 then some (c.toNat - 87) else none
def selfB (c : UInt8) : Bool := decide (32 ≤ c.toNat) && (decide (c.toNat ≤ 126) && (c != 39 && c != 37))
def unqB : List UInt8 → Option (List UInt8)
  | [] => some []
  | [c] => if selfB c = true then some [c] else none
  | [c, a] => if selfB c = true then (if selfB a = true then some [c, a] else none) else none
  | c :: a :: b :: t => if selfB c = true then (unqB (a :: b :: t)).map (c :: ·) else if c = 37 then
      (match hexv a, hexv b with
      | some h, some l => (unqB t).map (UInt8.ofNat (16 * h + l) :: ·)
      | _, _ => none)
    else none
theorem self37 : selfB 37 = false := by decide
theorem unq_self {c : UInt8} {t : List UInt8} (h : selfB c = true) : unqB (c :: t) = (unqB t).map (c :: ·) := by
  match t with
  | [] => simp [unqB, h]
  | [a] =>
    simp only [unqB, h, if_true]
    split <;> rfl
  | a :: b :: t => rw [unqB, if_pos h]
theorem unq_short {c : UInt8} {t : List UInt8} (h : selfB c = false) (h2 : c ≠ 37 ∨ t.length < 2) : unqB (c :: t) = none := by
  match t with
  | [] => simp [unqB, h]
  | [a] => simp [unqB, h]
  | a :: b :: t =>
    rw [unqB, if_neg (by rw [h]; simp), if_neg]
    rcases h2 with h2 | h2
    · exact h2
    · simp only [List.length_cons] at h2
      omega
theorem unq_hex {a b : UInt8} {t : List UInt8} : unqB (37 :: a :: b :: t) = (match hexv a, hexv b with
      | some h, some l => (unqB t).map (UInt8.ofNat (16 * h + l) :: ·)
      | _, _ => none) := by
  rw [unqB, if_neg (by rw [self37]; simp), if_pos rfl]
def textQ (s : List UInt8) : Option (List UInt8) :=
  if 2 ≤ s.length ∧ s.head? = some 39 ∧ s.getLast? = some 39 then (unqB (s.tail.dropLast)).bind fun b => if b.length ≤ 256 then some b else none else none
theorem text_le {s b : List UInt8} (h : textQ s = some b) : b.length ≤ 256 := by
  unfold textQ at h
  split at h
  · obtain ⟨y, _, hy⟩ := Option.bind_eq_some_iff.1 h
    split at hy
    · injection hy with hy
      subst hy
      assumption
    · cases hy
  · cases h
def hexd (n : Nat) : UInt8 := if n < 10 then UInt8.ofNat (48 + n) else UInt8.ofNat (87 + n)
def quoC (c : UInt8) : List UInt8 := if selfB c = true then [c] else [37, hexd (c.toNat / 16), hexd (c.toNat % 16)]
def quoB (s : List UInt8) : List UInt8 := 39 :: (s.flatMap quoC ++ [39])
theorem hexv_d : ∀ n : Fin 16, hexv (hexd n.1) = some n.1 := by decide
theorem hexd_39 : ∀ n : Fin 16, hexd n.1 ≠ 39 := by decide
theorem unq_quo : ∀ s : List UInt8, unqB (s.flatMap quoC) = some s
  | [] => rfl
  | c :: t => by
    rw [List.flatMap_cons]
    unfold quoC
    have hc := UInt8.toNat_lt c
    split
    · rename_i h
      rw [List.cons_append, List.nil_append, unq_self h, show (t.flatMap fun c => if selfB c = true then [c] else [37, hexd (c.toNat / 16), hexd (c.toNat % 16)]) = t.flatMap quoC from rfl, unq_quo t]
      rfl
    · rename_i h
      rw [List.cons_append, List.cons_append, List.cons_append, List.nil_append, unq_hex, hexv_d ⟨c.toNat / 16, by omega⟩, hexv_d ⟨c.toNat % 16, by omega⟩,
        show (t.flatMap fun c => if selfB c = true then [c] else [37, hexd (c.toNat / 16), hexd (c.toNat % 16)]) = t.flatMap quoC from rfl, unq_quo t]
      simp only [Option.map_some]
      rw [show 16 * (c.toNat / 16) + c.toNat % 16 = c.toNat by omega, UInt8.ofNat_toNat]
theorem quo_39 (s : List UInt8) : ∀ c ∈ s.flatMap quoC, c ≠ 39 := by
  intro c hc
  obtain ⟨d, _, hd⟩ := List.mem_flatMap.1 hc
  unfold quoC at hd
  have hn := UInt8.toNat_lt d
  split at hd
  · rename_i h
    have hd : c = d := by simpa using hd
    subst hd
    intro e
    subst e
    revert h
    decide
  · simp only [List.mem_cons, List.not_mem_nil, or_false] at hd
    rcases hd with rfl | rfl | rfl
    · decide
    · exact hexd_39 ⟨d.toNat / 16, by omega⟩
    · exact hexd_39 ⟨d.toNat % 16, by omega⟩
theorem text_quote {s : List UInt8} (h : s.length ≤ 256) : textQ (quoB s) = some s := by
  unfold textQ quoB
  rw [if_pos ⟨by simp, rfl, by rw [← List.cons_append, List.getLast?_concat]⟩]
  rw [List.tail_cons, List.dropLast_concat, unq_quo]
  simp [h]
theorem wd_quote (s : List UInt8) : Wd (quoB s) := wd_quoted (quo_39 s)
theorem quo_len (s : List UInt8) : (quoB s).length ≤ 3 * s.length + 2 := by
  unfold quoB
  simp only [List.length_cons, List.length_append, List.length_nil]
  have : (s.flatMap quoC).length ≤ 3 * s.length := by
    induction s with
    | nil => simp
    | cons c t ih =>
      rw [List.flatMap_cons, List.length_append, List.length_cons]
      have : (quoC c).length ≤ 3 := by unfold quoC; split <;> simp
      omega
  omega
end Go.Proofs.E
set_option linter.unusedVariables false
set_option linter.unusedSimpArgs false
namespace Go.Proofs.E
open Go
abbrev TsV := Int × Int × List UInt8
structure QryV where
  at_ : Int
  fr : List UInt8
  to_ : List UInt8
  ts : List TsV
  back : Bool
  skip : Int
  lim : Int
  cnt : Bool
abbrev wGet : List UInt8 := [103, 101, 116]
abbrev wCount : List UInt8 := [99, 111, 117, 110, 116]
abbrev wAt : List UInt8 := [97, 116]
abbrev wFrom : List UInt8 := [102, 114, 111, 109]
abbrev wTo : List UInt8 := [116, 111]
abbrev wWhere : List UInt8 := [119, 104, 101, 114, 101]
abbrev wAnd : List UInt8 := [97, 110, 100]
abbrev wBack : List UInt8 := [98, 97, 99, 107]
abbrev wSkip : List UInt8 := [115, 107, 105, 112]
abbrev wLimit : List UInt8 := [108, 105, 109, 105, 116]
abbrev fieldsW : List (List UInt8) := [[], [107, 101, 121], [118, 97, 108, 117, 101]]
abbrev opsW : List (List UInt8) := [[], [61], [33, 61], [60], [60, 61], [62], [62, 61], [104, 97, 115], [115, 116, 97, 114, 116, 115]]
abbrev headsW : List (List UInt8) := [[], wGet, wCount]
/-- The first place of a word; -1: it is not there. -/
def idxB : List (List UInt8) → List UInt8 → Int
  | [], _ => -1
  | x :: l, w => if x = w then 0 else if idxB l w = -1 then -1 else idxB l w + 1
def oneB (l : List (List UInt8)) (w : List UInt8) : Option Int := if 0 < idxB l w then some (idxB l w) else none
abbrev PS := Nat × Bool
section
variable {α : Type} (ws : List (List UInt8))
def qSees (x : List UInt8) (s : PS) : Bool := !s.2 && decide (ws[s.1]? = some x)
def qGet (f : List UInt8 → Option α) (s : PS) : Option α := if s.2 = true then none else (ws[s.1]?).bind f
def qAft (o : Option α) (s : PS) : PS := if o.isSome = true then (s.1 + 1, false) else (s.1, true)
def qVal (x : List UInt8) (f : List UInt8 → Option α) (d : α) (s : PS) : Option α := if qSees ws x s = true then qGet ws f (s.1 + 1, false) else some d
def qSt (x : List UInt8) (f : List UInt8 → Option α) (s : PS) : PS := if qSees ws x s = true then qAft (qGet ws f (s.1 + 1, false)) (s.1 + 1, false) else s
end
def numI (s : List UInt8) : Option Int := (numQ s).map fun (n : Nat) => (n : Int)
def qTestV (o1 o2 : Option Int) (o3 : Option (List UInt8)) : Option TsV := match o1, o2, o3 with | some a, some b, some c => some (a, b, c) | _, _, _ => none
def qTest (ws : List (List UInt8)) (s : PS) : Option TsV × PS :=
  (qTestV (qGet ws (oneB fieldsW) s) (qGet ws (oneB opsW) (qAft (qGet ws (oneB fieldsW) s) s)) (qGet ws textQ (qAft (qGet ws (oneB opsW) (qAft (qGet ws (oneB fieldsW) s) s)) (qAft (qGet ws (oneB fieldsW) s) s))),
   qAft (qGet ws textQ (qAft (qGet ws (oneB opsW) (qAft (qGet ws (oneB fieldsW) s) s)) (qAft (qGet ws (oneB fieldsW) s) s))) (qAft (qGet ws (oneB opsW) (qAft (qGet ws (oneB fieldsW) s) s)) (qAft (qGet ws (oneB fieldsW) s) s)))
def qTests (ws : List (List UInt8)) : Nat → List UInt8 → List TsV → PS → List TsV × PS
  | 0, _, l, s => (l, s)
  | n + 1, j, l, s => if qSees ws j s = true then (if l.length = 50 then (l, (s.1, true)) else qTests ws n wAnd (l ++ [(qTest ws (s.1 + 1, false)).1.getD (0, 0, [])]) (qTest ws (s.1 + 1, false)).2) else (l, s)
/-- The states behind the parts. -/
def st1 (ws : List (List UInt8)) : PS := qAft (qGet ws (oneB headsW) (0, false)) (0, false)
def st2 (ws : List (List UInt8)) : PS := qSt ws wAt numI (st1 ws)
def st3 (ws : List (List UInt8)) : PS := qSt ws wFrom textQ (st2 ws)
def st4 (ws : List (List UInt8)) : PS := qSt ws wTo textQ (st3 ws)
def st5 (ws : List (List UInt8)) : PS := (qTests ws 52 wWhere [] (st4 ws)).2
def st6 (ws : List (List UInt8)) : PS := if qSees ws wBack (st5 ws) = true then ((st5 ws).1 + 1, false) else st5 ws
def st7 (ws : List (List UInt8)) : PS := qSt ws wSkip numI (st6 ws)
def st8 (ws : List (List UInt8)) : PS := qSt ws wLimit numI (st7 ws)
def qAll (ws : List (List UInt8)) : QryV :=
  ⟨(qVal ws wAt numI (-1) (st1 ws)).getD 0, (qVal ws wFrom textQ [] (st2 ws)).getD [], (qVal ws wTo textQ [] (st3 ws)).getD [], (qTests ws 52 wWhere [] (st4 ws)).1, qSees ws wBack (st5 ws),
   (qVal ws wSkip numI 0 (st6 ws)).getD 0, (qVal ws wLimit numI (-1) (st7 ws)).getD 0, decide (qGet ws (oneB headsW) (0, false) = some 2)⟩
def zeroQ : QryV := ⟨0, [], [], [], false, 0, 0, false⟩
def parseQ (s : List UInt8) : QryV × Nat × Nat :=
  if 2000 < s.length then (zeroQ, 0, 12)
  else if (st8 (wordsB s)).2 = true ∨ (st8 (wordsB s)).1 < (wordsB s).length then (zeroQ, (st8 (wordsB s)).1 + 1, 15) else (qAll (wordsB s), 0, 0)
/-! ### What holds of states -/
section
variable {α : Type} {ws : List (List UInt8)} {x : List UInt8} {f : List UInt8 → Option α} {d : α} {s : PS}
theorem sees_bad (h : s.2 = true) : qSees ws x s = false := by unfold qSees; rw [h]; rfl
theorem aft_ok {o : Option α} (h : (qAft o s).2 = false) : o.isSome = true := by
  unfold qAft at h
  split at h
  · assumption
  · cases h
theorem get_ok (h : (qGet ws f s).isSome = true) : s.2 = false := by
  unfold qGet at h
  split at h
  · cases h
  · simpa using ‹¬ s.2 = true›
theorem aft_get (h : (qAft (qGet ws f s) s).2 = false) : s.2 = false ∧ ∃ v, qGet ws f s = some v := ⟨get_ok (aft_ok h), Option.isSome_iff_exists.1 (aft_ok h)⟩
theorem qst_ok (h : (qSt ws x f s).2 = false) : s.2 = false ∧ ∃ v, qVal ws x f d s = some v := by
  unfold qSt at h
  unfold qVal
  split at h
  · rename_i q
    rw [if_pos q]
    refine ⟨?_, (aft_get h).2⟩
    cases hs : s.2 with
    | false => rfl
    | true => rw [sees_bad hs] at q; cases q
  · rename_i q
    rw [if_neg q]
    exact ⟨h, d, rfl⟩
theorem qval_of {R : α → Prop} (hd : R d) (hf : ∀ w v, f w = some v → R v) {v : α} (h : qVal ws x f d s = some v) : R v := by
  unfold qVal at h
  split at h
  · unfold qGet at h
    split at h
    · cases h
    · obtain ⟨w, _, hw⟩ := Option.bind_eq_some_iff.1 h
      exact hf w v hw
  · injection h with h
    exact h ▸ hd
end
def rightT (t : TsV) : Bool := decide (1 ≤ t.1 ∧ t.1 ≤ 2 ∧ 1 ≤ t.2.1 ∧ t.2.1 ≤ 8 ∧ t.2.2.length ≤ 256)
def rightQ (q : QryV) : Bool := decide (-1 ≤ q.at_ ∧ q.at_ ≤ 999999999 ∧ 0 ≤ q.skip ∧ q.skip ≤ 999999999 ∧ -1 ≤ q.lim ∧ q.lim ≤ 999999999 ∧ q.fr.length ≤ 256 ∧ q.to_.length ≤ 256 ∧ q.ts.length ≤ 50) && q.ts.all rightT
theorem idxB_lt : ∀ (l : List (List UInt8)) (w : List UInt8), idxB l w < l.length ∧ -1 ≤ idxB l w
  | [], w => ⟨by simp [idxB], by simp [idxB]⟩
  | x :: l, w => by
    have ih := idxB_lt l w
    unfold idxB
    simp only [List.length_cons]
    split
    · omega
    · split <;> omega
theorem one_le {l : List (List UInt8)} {w : List UInt8} {i : Int} (h : oneB l w = some i) : 1 ≤ i ∧ i < l.length := by
  unfold oneB at h
  split at h
  · injection h with h
    have := idxB_lt l w
    omega
  · cases h
theorem test_ok {ws : List (List UInt8)} {s : PS} (h : (qTest ws s).2.2 = false) : s.2 = false ∧ ∃ t, (qTest ws s).1 = some t ∧ rightT t = true := by
  unfold qTest at h ⊢
  simp only at h ⊢
  obtain ⟨h1, v3, e3⟩ := aft_get h
  obtain ⟨h2, v2, e2⟩ := aft_get h1
  obtain ⟨h3, v1, e1⟩ := aft_get h2
  have hg : ∀ {α : Type} {f : List UInt8 → Option α} {s : PS} {v : α}, qGet ws f s = some v → ∃ w, f w = some v := fun {α f s v} h => by
    unfold qGet at h
    split at h
    · cases h
    · obtain ⟨w, _, hw⟩ := Option.bind_eq_some_iff.1 h
      exact ⟨w, hw⟩
  refine ⟨h3, (v1, v2, v3), by rw [e3, e2, e1]; rfl, ?_⟩
  obtain ⟨w1, g1⟩ := hg e1
  obtain ⟨w2, g2⟩ := hg e2
  obtain ⟨w3, g3⟩ := hg e3
  have a1 := one_le g1
  have a2 := one_le g2
  have a3 := text_le g3
  simp only [List.length_cons, List.length_nil] at a1 a2
  unfold rightT
  rw [decide_eq_true_eq]
  simp only
  omega
theorem tests_right {ws : List (List UInt8)} : ∀ {n : Nat} {j : List UInt8} {l : List TsV} {s : PS}, (qTests ws n j l s).2.2 = false → l.length ≤ 50 → l.all rightT = true → s.2 = false ∧ (qTests ws n j l s).1.length ≤ 50 ∧ (qTests ws n j l s).1.all rightT = true
  | 0, j, l, s, h, hl, ha => ⟨h, hl, ha⟩
  | n + 1, j, l, s, h, hl, ha => by
    unfold qTests at h ⊢
    split at h
    · rename_i q
      have hs : s.2 = false := by
        cases hs : s.2 with
        | false => rfl
        | true => rw [sees_bad hs] at q; cases q
      rw [if_pos q]
      split at h
      · cases h
      · rename_i q2
        rw [if_neg q2]
        have h0 : (qTest ws (s.1 + 1, false)).2.2 = false := by
          cases hb : (qTest ws (s.1 + 1, false)).2.2 with
          | false => rfl
          | true =>
            exfalso
            have : ∀ (n : Nat) (j : List UInt8) (l : List TsV) (s : PS), s.2 = true → (qTests ws n j l s).2.2 = true := fun n j l s hs => by
              cases n with
              | zero => exact hs
              | succ n => unfold qTests; rw [if_neg (by rw [sees_bad hs]; simp)]; exact hs
            rw [this _ _ _ _ hb] at h
            cases h
        obtain ⟨_, t, ht, hr⟩ := test_ok h0
        rw [ht] at h ⊢
        exact ⟨hs, (tests_right h (by rw [List.length_append, List.length_singleton]; omega) (by rw [List.all_append, ha]; simp [hr])).2⟩
    · rename_i q
      rw [if_neg q]
      exact ⟨h, hl, ha⟩
theorem numI_of {w : List UInt8} {v : Int} (h : numI w = some v) : 0 ≤ v ∧ v ≤ 999999999 := by
  obtain ⟨n, hn, rfl⟩ := Option.map_eq_some_iff.1 h
  have := num_le hn
  omega
/-- What is read is right. -/
theorem all_right {ws : List (List UInt8)} (h : (st8 ws).2 = false) : rightQ (qAll ws) = true := by
  obtain ⟨h7, vL, eL⟩ := qst_ok (d := (-1 : Int)) h
  obtain ⟨h6, vS, eS⟩ := qst_ok (d := (0 : Int)) h7
  have h5 : (st5 ws).2 = false := by
    unfold st6 at h6
    split at h6
    · rename_i q
      cases hs : (st5 ws).2 with
      | false => rfl
      | true => rw [sees_bad hs] at q; cases q
    · exact h6
  obtain ⟨h4, t1, t2⟩ := tests_right h5 (by simp) (by simp)
  obtain ⟨h3, vT, eT⟩ := qst_ok (d := ([] : List UInt8)) h4
  obtain ⟨h2, vF, eF⟩ := qst_ok (d := ([] : List UInt8)) h3
  obtain ⟨h1, vA, eA⟩ := qst_ok (d := (-1 : Int)) h2
  have a1 := qval_of (R := fun v : Int => -1 ≤ v ∧ v ≤ 999999999) (by omega) (fun w v hw => by have := numI_of hw; omega) eA
  have a2 := qval_of (R := fun v : List UInt8 => v.length ≤ 256) (by simp) (fun w v hw => text_le hw) eF
  have a3 := qval_of (R := fun v : List UInt8 => v.length ≤ 256) (by simp) (fun w v hw => text_le hw) eT
  have a4 := qval_of (R := fun v : Int => 0 ≤ v ∧ v ≤ 999999999) (by omega) (fun w v hw => by have := numI_of hw; omega) eS
  have a5 := qval_of (R := fun v : Int => -1 ≤ v ∧ v ≤ 999999999) (by omega) (fun w v hw => by have := numI_of hw; omega) eL
  unfold rightQ qAll
  rw [eL, eS, eT, eF, eA]
  simp only [Option.getD_some]
  rw [t2, Bool.and_true, decide_eq_true_eq]
  omega
/-! ### Printing -/
def fieldW (n : Int) : List UInt8 := fieldsW.getD n.toNat []
def opW (n : Int) : List UInt8 := opsW.getD n.toNat []
def tsW : List UInt8 → List TsV → List (List UInt8)
  | _, [] => []
  | j, t :: ts => j :: fieldW t.1 :: opW t.2.1 :: quoB t.2.2 :: tsW wAnd ts
def prW (q : QryV) : List (List UInt8) :=
  (if q.cnt = true then wCount else wGet) :: ((if 0 ≤ q.at_ then [wAt, Lib.itoa q.at_] else []) ++ ((if q.fr ≠ [] then [wFrom, quoB q.fr] else []) ++ ((if q.to_ ≠ [] then [wTo, quoB q.to_] else []) ++
    (tsW wWhere q.ts ++ ((if q.back = true then [wBack] else []) ++ ((if 0 < q.skip then [wSkip, Lib.itoa q.skip] else []) ++ (if 0 ≤ q.lim then [wLimit, Lib.itoa q.lim] else [])))))))
def printQ (q : QryV) : List UInt8 := if rightQ q = true then Lib.join (prW q) [32] else []
def goodQ (q : QryV) : Bool := rightQ q && decide ((printQ q).length ≤ 2000)
/-! ### What is printed is read again -/
section
variable {α : Type} {ws r : List (List UInt8)} {x y : List UInt8} {f : List UInt8 → Option α} {d v : α} {i : Nat}
theorem at_drop {β : Type} {ws : List β} {i : Nat} : ws[i]? = (ws.drop i).head? := by rw [List.head?_drop]
theorem drop_next {β : Type} {ws r : List β} {x : β} {i : Nat} (h : ws.drop i = x :: r) : ws.drop (i + 1) = r := by
  rw [← List.tail_drop, h]
  rfl
theorem sees_hit (h : ws.drop i = x :: r) : qSees ws x (i, false) = true := by unfold qSees; simp [at_drop, h]
theorem sees_miss (h : ws.drop i = r) (hx : r.head? ≠ some x) : qSees ws x (i, false) = false := by
  unfold qSees
  simp only [at_drop, h]
  simpa using hx
theorem get_hit (h : ws.drop i = x :: r) (hf : f x = some v) : qGet ws f (i, false) = some v := by unfold qGet; simp [at_drop, h, hf]
theorem aft_some {s : PS} : qAft (some v) s = (s.1 + 1, false) := rfl
theorem cl {p : Prop} [Decidable p] (h : ws.drop i = (if p then [x, y] else []) ++ r) (hx : r.head? ≠ some x) (hf : p → f y = some v) :
    ∃ j, qSt ws x f (i, false) = (j, false) ∧ ws.drop j = r ∧ qVal ws x f d (i, false) = some (if p then v else d) := by
  by_cases hp : p
  · rw [if_pos hp] at h ⊢
    have h1 : ws.drop (i + 1) = y :: r := drop_next h
    have hg := get_hit h1 (hf hp)
    have hs := sees_hit (ws := ws) (x := x) (r := y :: r) h
    refine ⟨i + 1 + 1, ?_, drop_next h1, ?_⟩
    · unfold qSt
      rw [if_pos hs]
      simp only [hg]
      rfl
    · unfold qVal
      rw [if_pos hs]
      exact hg
  · rw [if_neg hp] at h ⊢
    have hs := sees_miss (x := x) (show ws.drop i = r from h) hx
    refine ⟨i, ?_, h, ?_⟩
    · unfold qSt
      rw [if_neg (by rw [hs]; simp)]
    · unfold qVal
      rw [if_neg (by rw [hs]; simp)]
end
theorem field_one : ∀ n : Fin 2, oneB fieldsW (fieldW ((n.1 + 1 : Nat) : Int)) = some ((n.1 + 1 : Nat) : Int) := by decide
theorem op_one : ∀ n : Fin 8, oneB opsW (opW ((n.1 + 1 : Nat) : Int)) = some ((n.1 + 1 : Nat) : Int) := by decide
theorem field_of {n : Int} (h : 1 ≤ n ∧ n ≤ 2) : oneB fieldsW (fieldW n) = some n := by
  obtain ⟨k, rfl⟩ := Int.eq_ofNat_of_zero_le (by omega : 0 ≤ n)
  have := field_one ⟨k - 1, by omega⟩
  simp only [show k - 1 + 1 = k by omega] at this
  exact this
theorem op_of {n : Int} (h : 1 ≤ n ∧ n ≤ 8) : oneB opsW (opW n) = some n := by
  obtain ⟨k, rfl⟩ := Int.eq_ofNat_of_zero_le (by omega : 0 ≤ n)
  have := op_one ⟨k - 1, by omega⟩
  simp only [show k - 1 + 1 = k by omega] at this
  exact this
theorem rightT_parts {t : TsV} (h : rightT t = true) : (1 ≤ t.1 ∧ t.1 ≤ 2) ∧ (1 ≤ t.2.1 ∧ t.2.1 ≤ 8) ∧ t.2.2.length ≤ 256 := by
  unfold rightT at h
  rw [decide_eq_true_eq] at h
  omega
theorem tests_ok {ws : List (List UInt8)} : ∀ {ts l : List TsV} {n i : Nat} {j : List UInt8} {r : List (List UInt8)}, ws.drop i = tsW j ts ++ r → (∀ t ∈ ts, rightT t = true) → l.length + ts.length ≤ 50 → ts.length < n → r.head? ≠ some j → r.head? ≠ some wAnd →
    ∃ k, qTests ws n j l (i, false) = (l ++ ts, (k, false)) ∧ ws.drop k = r
  | [], l, n, i, j, r, h, ht, hl, hn, hj, ha => by
    obtain ⟨n, rfl⟩ : ∃ m, n = m + 1 := ⟨n - 1, by simp only [List.length_nil] at hn; omega⟩
    refine ⟨i, ?_, h⟩
    unfold qTests
    rw [if_neg (by rw [sees_miss (show ws.drop i = r from h) hj]; simp), List.append_nil]
  | t :: ts, l, n, i, j, r, h, ht, hl, hn, hj, ha => by
    simp only [List.length_cons] at hl hn
    obtain ⟨n, rfl⟩ : ∃ m, n = m + 1 := ⟨n - 1, by omega⟩
    have hs := sees_hit (ws := ws) (x := j) (r := fieldW t.1 :: opW t.2.1 :: quoB t.2.2 :: (tsW wAnd ts ++ r)) h
    have h1 := drop_next (x := j) (r := fieldW t.1 :: opW t.2.1 :: quoB t.2.2 :: (tsW wAnd ts ++ r)) h
    have h2 := drop_next h1
    have h3 := drop_next h2
    have h4 := drop_next h3
    obtain ⟨r1, r2, r3⟩ := rightT_parts (ht t (by simp))
    have g1 := get_hit (f := oneB fieldsW) h1 (field_of r1)
    have g2 := get_hit (f := oneB opsW) h2 (op_of r2)
    have g3 := get_hit (f := textQ) h3 (text_quote r3)
    have e : qTest ws (i + 1, false) = (some t, (i + 1 + 1 + 1 + 1, false)) := by
      unfold qTest
      rw [g1, aft_some, g2, aft_some, g3]
      rfl
    obtain ⟨k, hk, hd⟩ := tests_ok (l := l ++ [t]) (n := n) h4 (fun u hu => ht u (by simp [hu])) (by rw [List.length_append, List.length_singleton]; omega) (by omega) ha ha
    refine ⟨k, ?_, hd⟩
    unfold qTests
    rw [if_pos hs, if_neg (by omega), e]
    simp only [Option.getD_some]
    rw [hk, List.append_assoc]
    rfl
theorem head_if {p : Prop} [Decidable p] {x y : List UInt8} {l r : List (List UInt8)} (h1 : x ≠ y) (h2 : r.head? ≠ some y) : ((if p then x :: l else []) ++ r).head? ≠ some y := by
  split
  · simpa using h1
  · simpa using h2
theorem head_ts {j y : List UInt8} {ts : List TsV} {r : List (List UInt8)} (h1 : j ≠ y) (h2 : r.head? ≠ some y) : (tsW j ts ++ r).head? ≠ some y := by
  cases ts with
  | nil => simpa [tsW] using h2
  | cons t ts => simpa [tsW] using h1
theorem itoa_nat {n : Int} (h0 : 0 ≤ n) : Lib.itoa n = Lib.decDigits n.toNat := by
  unfold Lib.itoa
  rw [if_neg (by omega)]
theorem numI_itoa {n : Int} (h0 : 0 ≤ n) (h1 : n ≤ 999999999) : numI (Lib.itoa n) = some n := by
  unfold numI
  rw [itoa_nat h0, num_digits (by omega)]
  simp only [Option.map_some]
  congr 1
  omega
theorem right_parts34 {q : QryV} (h : rightQ q = true) : (-1 ≤ q.at_ ∧ q.at_ ≤ 999999999 ∧ 0 ≤ q.skip ∧ q.skip ≤ 999999999 ∧ -1 ≤ q.lim ∧ q.lim ≤ 999999999 ∧ q.fr.length ≤ 256 ∧ q.to_.length ≤ 256 ∧ q.ts.length ≤ 50) ∧ ∀ t ∈ q.ts, rightT t = true := by
  unfold rightQ at h
  rw [Bool.and_eq_true, decide_eq_true_eq, List.all_eq_true] at h
  exact h
theorem head_nil {y : List UInt8} : ([] : List (List UInt8)).head? ≠ some y := by simp
/-- The words of a query that is right are read as that. -/
theorem all_print {q : QryV} (h : rightQ q = true) : (st8 (prW q)).2 = false ∧ (prW q).length ≤ (st8 (prW q)).1 ∧ qAll (prW q) = q := by
  obtain ⟨⟨a1, a2, a3, a4, a5, a6, a7, a8, a9⟩, at_⟩ := right_parts34 h
  obtain ⟨ws, hw⟩ : ∃ ws, prW q = ws := ⟨_, rfl⟩
  have h0 : ws.drop 0 = prW q := by rw [List.drop_zero, hw]
  unfold prW at h0
  have g0 : qGet ws (oneB headsW) (0, false) = some (if q.cnt = true then 2 else 1) := get_hit h0 (by split <;> decide)
  have h1 := drop_next h0
  rw [hw]
  have s1 : st1 ws = (1, false) := by
    unfold st1
    rw [g0]
    rfl
  have hl1 : ((if 0 ≤ q.lim then [wLimit, Lib.itoa q.lim] else []) : List (List UInt8)).head? ≠ some wSkip := by
    have := head_if (p := 0 ≤ q.lim) (x := wLimit) (y := wSkip) (l := [Lib.itoa q.lim]) (r := []) (by decide) head_nil
    rwa [List.append_nil] at this
  have hl2 : ∀ y, wLimit ≠ y → ((if 0 ≤ q.lim then [wLimit, Lib.itoa q.lim] else []) : List (List UInt8)).head? ≠ some y := fun y hy => by
    have := head_if (p := 0 ≤ q.lim) (x := wLimit) (y := y) (l := [Lib.itoa q.lim]) (r := []) hy head_nil
    rwa [List.append_nil] at this
  have hs2 : ∀ y, wLimit ≠ y → wSkip ≠ y → ((if 0 < q.skip then [wSkip, Lib.itoa q.skip] else []) ++ (if 0 ≤ q.lim then [wLimit, Lib.itoa q.lim] else []) : List (List UInt8)).head? ≠ some y := fun y e1 e2 => head_if e2 (hl2 y e1)
  have hb2 : ∀ y, wLimit ≠ y → wSkip ≠ y → wBack ≠ y → ((if q.back = true then [wBack] else []) ++ ((if 0 < q.skip then [wSkip, Lib.itoa q.skip] else []) ++ (if 0 ≤ q.lim then [wLimit, Lib.itoa q.lim] else [])) : List (List UInt8)).head? ≠ some y := fun y e1 e2 e3 => head_if e3 (hs2 y e1 e2)
  have ht2 : ∀ y, wLimit ≠ y → wSkip ≠ y → wBack ≠ y → wWhere ≠ y → (tsW wWhere q.ts ++ ((if q.back = true then [wBack] else []) ++ ((if 0 < q.skip then [wSkip, Lib.itoa q.skip] else []) ++ (if 0 ≤ q.lim then [wLimit, Lib.itoa q.lim] else []))) : List (List UInt8)).head? ≠ some y := fun y e1 e2 e3 e4 => head_ts e4 (hb2 y e1 e2 e3)
  have ho2 : ∀ y, wLimit ≠ y → wSkip ≠ y → wBack ≠ y → wWhere ≠ y → wTo ≠ y → ((if q.to_ ≠ [] then [wTo, quoB q.to_] else []) ++ (tsW wWhere q.ts ++ ((if q.back = true then [wBack] else []) ++ ((if 0 < q.skip then [wSkip, Lib.itoa q.skip] else []) ++ (if 0 ≤ q.lim then [wLimit, Lib.itoa q.lim] else [])))) : List (List UInt8)).head? ≠ some y := fun y e1 e2 e3 e4 e5 => head_if e5 (ht2 y e1 e2 e3 e4)
  obtain ⟨i2, s2, h2, v2⟩ := cl (f := numI) (v := q.at_) (d := (-1 : Int)) h1 (head_if (by decide) (ho2 _ (by decide) (by decide) (by decide) (by decide) (by decide))) (fun hp => numI_itoa hp a2)
  obtain ⟨i3, s3, h3, v3⟩ := cl (f := textQ) (v := q.fr) (d := ([] : List UInt8)) h2 (ho2 _ (by decide) (by decide) (by decide) (by decide) (by decide)) (fun _ => text_quote a7)
  obtain ⟨i4, s4, h4, v4⟩ := cl (f := textQ) (v := q.to_) (d := ([] : List UInt8)) h3 (ht2 _ (by decide) (by decide) (by decide) (by decide)) (fun _ => text_quote a8)
  obtain ⟨i5, s5, h5⟩ := tests_ok (l := []) (n := 52) h4 at_ (by simpa using a9) (by omega) (hb2 _ (by decide) (by decide) (by decide)) (hb2 _ (by decide) (by decide) (by decide))
  obtain ⟨i6, h6, s6, v6⟩ : ∃ i6, ws.drop i6 = (if 0 < q.skip then [wSkip, Lib.itoa q.skip] else []) ++ (if 0 ≤ q.lim then [wLimit, Lib.itoa q.lim] else []) ∧ (if qSees ws wBack (i5, false) = true then (i5 + 1, false) else (i5, false)) = ((i6, false) : PS) ∧ qSees ws wBack (i5, false) = q.back := by
    cases hb : q.back with
    | true =>
      rw [hb, if_pos rfl] at h5
      have := sees_hit (ws := ws) h5
      exact ⟨i5 + 1, drop_next h5, by rw [if_pos this], this⟩
    | false =>
      rw [hb, if_neg (by simp)] at h5
      have := sees_miss (x := wBack) (show ws.drop i5 = _ from h5) (hs2 _ (by decide) (by decide))
      exact ⟨i5, h5, by rw [if_neg (by rw [this]; simp)], this⟩
  obtain ⟨i7, s7, h7, v7⟩ := cl (f := numI) (v := q.skip) (d := (0 : Int)) h6 hl1 (fun hp => numI_itoa (by omega) a4)
  obtain ⟨i8, s8, h8, v8⟩ := cl (f := numI) (v := q.lim) (d := (-1 : Int)) (show ws.drop i7 = _ ++ [] by rw [List.append_nil]; exact h7) head_nil (fun hp => numI_itoa hp a6)
  have e2 : st2 ws = (i2, false) := by unfold st2; rw [s1]; exact s2
  have e3 : st3 ws = (i3, false) := by unfold st3; rw [e2]; exact s3
  have e4 : st4 ws = (i4, false) := by unfold st4; rw [e3]; exact s4
  have e5 : st5 ws = (i5, false) := by unfold st5; rw [e4, s5]
  have e6 : st6 ws = (i6, false) := by unfold st6; rw [e5]; exact s6
  have e7 : st7 ws = (i7, false) := by unfold st7; rw [e6]; exact s7
  have e8 : st8 ws = (i8, false) := by unfold st8; rw [e7]; exact s8
  have hlen : ws.length ≤ i8 := by
    have := congrArg List.length h8
    rw [List.length_drop] at this
    simp at this
    omega
  refine ⟨by rw [e8], by rw [e8]; exact hlen, ?_⟩
  unfold qAll
  rw [s1, e2, e3, e4, e5, e6, e7, v2, v3, v4, s5, v6, v7, v8, g0]
  obtain ⟨qa, qf, qt, qs, qb, qk, ql, qc⟩ := q
  simp only at *
  have z1 : (if 0 ≤ qa then qa else -1) = qa := by split <;> omega
  have z2 : ∀ l : List UInt8, (if l ≠ [] then l else []) = l := fun l => by
    by_cases hl : l = []
    · rw [if_neg (by simpa using hl), hl]
    · rw [if_pos hl]
  have z3 : (if 0 < qk then qk else 0) = qk := by split <;> omega
  have z4 : (if 0 ≤ ql then ql else -1) = ql := by split <;> omega
  have z5 : decide ((some (if qc = true then 2 else 1) : Option Int) = some 2) = qc := by cases qc <;> rfl
  rw [z1, z2, z2, z3, z4, z5]
  rfl
theorem wd_ts : ∀ {ts : List TsV} {j : List UInt8}, Wd j → (∀ t ∈ ts, rightT t = true) → ∀ x ∈ tsW j ts, Wd x
  | [], j, hj, h, x, hx => by cases hx
  | t :: ts, j, hj, h, x, hx => by
    obtain ⟨r1, r2, r3⟩ := rightT_parts (h t (by simp))
    have hf : ∀ n : Fin 2, fieldW ((n.1 + 1 : Nat) : Int) ≠ [] ∧ (fieldW ((n.1 + 1 : Nat) : Int)).head? ≠ some 39 ∧ ∀ c ∈ fieldW ((n.1 + 1 : Nat) : Int), c ≠ 32 := by decide
    have ho : ∀ n : Fin 8, opW ((n.1 + 1 : Nat) : Int) ≠ [] ∧ (opW ((n.1 + 1 : Nat) : Int)).head? ≠ some 39 ∧ ∀ c ∈ opW ((n.1 + 1 : Nat) : Int), c ≠ 32 := by decide
    unfold tsW at hx
    simp only [List.mem_cons] at hx
    rcases hx with rfl | rfl | rfl | rfl | hx
    · exact hj
    · obtain ⟨k, hk⟩ := Int.eq_ofNat_of_zero_le (by omega : 0 ≤ t.1)
      have := hf ⟨k - 1, by omega⟩
      simp only [show k - 1 + 1 = k by omega] at this
      rw [hk]
      exact wd_plain this.1 this.2.1 this.2.2
    · obtain ⟨k, hk⟩ := Int.eq_ofNat_of_zero_le (by omega : 0 ≤ t.2.1)
      have := ho ⟨k - 1, by omega⟩
      simp only [show k - 1 + 1 = k by omega] at this
      rw [hk]
      exact wd_plain this.1 this.2.1 this.2.2
    · exact wd_quote _
    · exact wd_ts (wd_plain (by decide) (by decide) (by decide)) (fun t ht => h t (by simp [ht])) x hx
theorem wd_two {p : Prop} [Decidable p] {x y : List UInt8} {l : List (List UInt8)} (hx : Wd x) (hy : p → Wd y) (hl : ∀ z ∈ l, Wd z) : ∀ z ∈ (if p then [x, y] else []) ++ l, Wd z := fun z hz => by
  rcases List.mem_append.1 hz with hz | hz
  · split at hz
    · rename_i hp
      simp only [List.mem_cons, List.not_mem_nil, or_false] at hz
      rcases hz with rfl | rfl
      · exact hx
      · exact hy hp
    · cases hz
  · exact hl z hz
theorem wd_print {q : QryV} (h : rightQ q = true) : ∀ x ∈ prW q, Wd x := by
  obtain ⟨⟨a1, a2, a3, a4, a5, a6, a7, a8, a9⟩, at_⟩ := right_parts34 h
  have hi : ∀ n : Int, 0 ≤ n → Wd (Lib.itoa n) := fun n hn => by rw [itoa_nat hn]; exact wd_digits _
  have pl : ∀ w ∈ [wGet, wCount, wAt, wFrom, wTo, wWhere, wAnd, wBack, wSkip, wLimit], Wd w := fun w hw => by
    have : ∀ w ∈ [wGet, wCount, wAt, wFrom, wTo, wWhere, wAnd, wBack, wSkip, wLimit], w ≠ [] ∧ w.head? ≠ some 39 ∧ ∀ c ∈ w, c ≠ 32 := by decide
    obtain ⟨h1, h2, h3⟩ := this w hw
    exact wd_plain h1 h2 h3
  intro x hx
  unfold prW at hx
  rcases List.mem_cons.1 hx with rfl | hx
  · split
    · exact pl _ (by simp)
    · exact pl _ (by simp)
  · refine wd_two (pl _ (by simp)) (hi _) (wd_two (pl _ (by simp)) (fun _ => wd_quote _) (wd_two (pl _ (by simp)) (fun _ => wd_quote _) (fun z hz => ?_))) x hx
    rcases List.mem_append.1 hz with hz | hz
    · exact wd_ts (pl _ (by simp)) at_ z hz
    rcases List.mem_append.1 hz with hz | hz
    · split at hz
      · simp only [List.mem_singleton] at hz
        subst hz
        exact pl _ (by simp)
      · cases hz
    refine wd_two (p := 0 < q.skip) (x := wSkip) (y := Lib.itoa q.skip) (pl _ (by simp)) (fun hp => hi _ (by omega)) (l := (if 0 ≤ q.lim then [wLimit, Lib.itoa q.lim] else []) ++ []) (wd_two (x := wLimit) (pl _ (by simp)) (hi _) (by simp)) z (by rw [List.append_nil]; exact hz)
/-- The text of a query that may be is that query. -/
theorem parse_print {q : QryV} (h : rightQ q = true) (hl : (printQ q).length ≤ 2000) : parseQ (printQ q) = (q, 0, 0) := by
  obtain ⟨h1, h2, h3⟩ := all_print h
  unfold parseQ
  rw [if_neg (by omega)]
  have e : wordsB (printQ q) = prW q := by
    unfold printQ
    rw [if_pos h, words_join (wd_print h)]
  rw [e, if_neg (by rw [h1]; simp; omega), h3]
theorem parse_long {s : List UInt8} (h : 2000 < s.length) : parseQ s = (zeroQ, 0, 12) := if_pos h
theorem parse_right {s : List UInt8} (h : (parseQ s).2.2 = 0) : rightQ (parseQ s).1 = true := by
  unfold parseQ at h ⊢
  split at h
  · cases h
  · rename_i q1
    rw [if_neg q1]
    split at h
    · cases h
    · rename_i q2
      rw [if_neg q2]
      exact all_right (by cases hb : (st8 (wordsB s)).2 with | false => rfl | true => exact absurd (.inl hb) q2)
end Go.Proofs.E

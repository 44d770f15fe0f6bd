/- Bits counted, trailing ones: plain words; the library's own two ways to count. -/
import Derived.Test.YtnkkeehoejmcnaaDoorNum
set_option linter.unusedVariables false
set_option linter.unusedSimpArgs false
namespace Go.Proofs.YtnkkeehoejmcnaaDoor
open Go Go.RowKit Go.Proofs.E

/-- How many ones u has. -/
def popN (u : Nat) : Nat := (bitsDown u 63).length
/-- How many ones it ends with. -/
def tonesF : Nat → Nat → Nat
  | 0, _ => 0
  | f + 1, u => if u % 2 = 1 then tonesF f (u / 2) + 1 else 0
def tones (u : Nat) : Nat := tonesF 64 u
theorem len_succ (u k : Nat) : (bitsDown u (k + 1)).length = (bitsDown u k).length + (u.testBit k).toNat := by
  rw [bitsDown]
  split
  · rename_i h; rw [h]; rfl
  · rename_i h; rw [Bool.not_eq_true] at h; rw [h]; rfl
theorem len_split {j a b : Nat} (ha : a < 2 ^ j) : ∀ k, (bitsDown (a + 2 ^ j * b) (j + k)).length = (bitsDown a j).length + (bitsDown b k).length
  | 0 => by
    rw [Nat.add_zero, bitsDown_congr (v := a) fun i hi => by rw [Nat.add_comm, Nat.testBit_two_pow_mul_add b ha, if_pos hi]]
    rfl
  | k + 1 => by
    rw [← Nat.add_assoc, len_succ, len_split ha k, len_succ]
    have : (a + 2 ^ j * b).testBit (j + k) = b.testBit k := by
      rw [Nat.add_comm a, Nat.testBit_two_pow_mul_add b ha, if_neg (by omega), Nat.add_sub_cancel_left]
    rw [this]
    omega
theorem and_split {j a b c d : Nat} (ha : a < 2 ^ j) (hc : c < 2 ^ j) : (a + 2 ^ j * b) &&& (c + 2 ^ j * d) = (a &&& c) + 2 ^ j * (b &&& d) := by
  apply Nat.eq_of_testBit_eq
  intro i
  have hac : a &&& c < 2 ^ j := Nat.and_lt_two_pow _ hc
  rw [Nat.testBit_and, Nat.add_comm a, Nat.add_comm c, Nat.add_comm (a &&& c), Nat.testBit_two_pow_mul_add _ ha, Nat.testBit_two_pow_mul_add _ hc, Nat.testBit_two_pow_mul_add _ hac]
  split
  · rw [Nat.testBit_and]
  · rw [Nat.testBit_and]
/-! ### The sum side by side -/
def s1 (m x : Nat) : Nat := (x / 2 &&& m) + (x &&& m)
def s2 (m x : Nat) : Nat := (x / 4 &&& m) + (x &&& m)
def s3 (m x : Nat) : Nat := (x / 16 + x) &&& m
def rep (c : Nat) : Nat → Nat
  | 0 => 0
  | k + 1 => c + 256 * rep c k
theorem b1 : ∀ a < 256, ∀ c < 2, (a / 2 + 128 * c) &&& 85 = a / 2 &&& 85 := by decide +kernel
theorem b2 : ∀ a < 256, ∀ c < 4, (a / 4 + 64 * c) &&& 51 = a / 4 &&& 51 := by decide +kernel
theorem b3 : ∀ a < 69, ∀ c < 5, (a / 16 + 16 * c + a) &&& 15 = (a / 16 + a) &&& 15 := by decide +kernel
theorem s2b : ∀ a < 256, s2 51 (s1 85 a) < 69 ∧ s2 51 (s1 85 a) % 16 < 5 ∧ s1 85 a < 256 := by decide +kernel
theorem s3b : ∀ a < 256, s3 15 (s2 51 (s1 85 a)) = (bitsDown a 8).length := by decide +kernel
theorem s1_split {a b m : Nat} (ha : a < 256) : s1 (85 + 256 * m) (a + 256 * b) = s1 85 a + 256 * s1 m b := by
  unfold s1
  rw [show (a + 256 * b) / 2 = (a / 2 + 128 * (b % 2)) + 2 ^ 8 * (b / 2) by omega, show 85 + 256 * m = 85 + 2 ^ 8 * m from rfl, and_split (by omega) (by omega), show a + 256 * b = a + 2 ^ 8 * b from rfl, and_split (by omega) (by omega), b1 a ha _ (Nat.mod_lt _ (by omega))]
  omega
theorem s2_split {a b m : Nat} (ha : a < 256) : s2 (51 + 256 * m) (a + 256 * b) = s2 51 a + 256 * s2 m b := by
  unfold s2
  rw [show (a + 256 * b) / 4 = (a / 4 + 64 * (b % 4)) + 2 ^ 8 * (b / 4) by omega, show 51 + 256 * m = 51 + 2 ^ 8 * m from rfl, and_split (by omega) (by omega), show a + 256 * b = a + 2 ^ 8 * b from rfl, and_split (by omega) (by omega), b2 a ha _ (Nat.mod_lt _ (by omega))]
  omega
theorem s3_split {a b m : Nat} (ha : a < 69) (hb : b % 16 < 5) : s3 (15 + 256 * m) (a + 256 * b) = s3 15 a + 256 * s3 m b := by
  unfold s3
  rw [show (a + 256 * b) / 16 + (a + 256 * b) = (a / 16 + 16 * (b % 16) + a) + 2 ^ 8 * (b / 16 + b) by omega, show 15 + 256 * m = 15 + 2 ^ 8 * m from rfl, and_split (by omega) (by omega), b3 a ha _ hb]
theorem mod16 : ∀ (k b : Nat), s2 (rep 51 k) (s1 (rep 85 k) b) % 16 < 5
  | 0, b => by simp [rep, s2, s1]
  | k + 1, b => by
    have h := s2b (b % 256) (Nat.mod_lt _ (by omega))
    rw [← Nat.mod_add_div b 256, rep, rep, s1_split (Nat.mod_lt _ (by omega)), s2_split h.2.2]
    omega
/-- Sums of eight bits each, side by side. -/
def sw (k x : Nat) : Nat := s3 (rep 15 k) (s2 (rep 51 k) (s1 (rep 85 k) x))
theorem sw_split {k a b : Nat} (ha : a < 256) : sw (k + 1) (a + 256 * b) = (bitsDown a 8).length + 256 * sw k b := by
  have h := s2b a ha
  unfold sw
  rw [rep, rep, rep, s1_split ha, s2_split h.2.2, s3_split h.1 (mod16 k b), s3b a ha]
/-- All eight of them summed. -/
def swar (x : Nat) : Nat :=
  let a := sw 8 x
  let b := a + a / 256
  let c := b + b / 65536
  let d := c + c / 4294967296
  d % 128
theorem len8 (a : Nat) : (bitsDown a 8).length ≤ 8 := bitsDown_len a 8
theorem sw_eq : ∀ (k x : Nat), x < 256 ^ k → ∃ cs : List Nat, cs.length = k ∧ (∀ c ∈ cs, c ≤ 8) ∧ cs.sum = (bitsDown x (8 * k)).length ∧ sw k x = cs.foldr (fun c r => c + 256 * r) 0
  | 0, x, h => ⟨[], rfl, by simp, by simp [bitsDown], by simp [sw, s1, s2, s3, rep]⟩
  | k + 1, x, h => by
    have hx : x / 256 < 256 ^ k := by
      rw [Nat.pow_succ] at h
      omega
    obtain ⟨cs, h1, h2, h3, h4⟩ := sw_eq k (x / 256) hx
    refine ⟨(bitsDown (x % 256) 8).length :: cs, by simp [h1], ?_, ?_, ?_⟩
    · intro c hc
      rcases List.mem_cons.1 hc with rfl | hc
      · exact len8 _
      · exact h2 c hc
    · rw [List.sum_cons, h3, show 8 * (k + 1) = 8 + 8 * k by omega]
      have := len_split (j := 8) (a := x % 256) (b := x / 256) (Nat.mod_lt _ (by omega)) (8 * k)
      rw [show x % 256 + 2 ^ 8 * (x / 256) = x from Nat.mod_add_div x 256] at this
      rw [this]
    · rw [List.foldr_cons, ← h4]
      have := sw_split (k := k) (a := x % 256) (b := x / 256) (Nat.mod_lt _ (by omega))
      rwa [Nat.mod_add_div] at this
theorem swar_sum {x c0 c1 c2 c3 c4 c5 c6 c7 : Nat} (h : sw 8 x = c0 + 256 * (c1 + 256 * (c2 + 256 * (c3 + 256 * (c4 + 256 * (c5 + 256 * (c6 + 256 * (c7 + 256 * 0)))))))) (a0 : c0 ≤ 8) (a1 : c1 ≤ 8) (a2 : c2 ≤ 8) (a3 : c3 ≤ 8) (a4 : c4 ≤ 8) (a5 : c5 ≤ 8) (a6 : c6 ≤ 8) (a7 : c7 ≤ 8) :
    swar x = c0 + (c1 + (c2 + (c3 + (c4 + (c5 + (c6 + (c7 + 0))))))) := by
  unfold swar
  simp only
  generalize sw 8 x = x0 at h
  obtain ⟨x7, h7⟩ : ∃ x7, x7 = c7 := ⟨_, rfl⟩
  obtain ⟨x6, h6⟩ : ∃ x6, x6 = c6 + 256 * x7 := ⟨_, rfl⟩
  obtain ⟨x5, h5⟩ : ∃ x5, x5 = c5 + 256 * x6 := ⟨_, rfl⟩
  obtain ⟨x4, h4⟩ : ∃ x4, x4 = c4 + 256 * x5 := ⟨_, rfl⟩
  obtain ⟨x3, h3⟩ : ∃ x3, x3 = c3 + 256 * x4 := ⟨_, rfl⟩
  obtain ⟨x2, h2⟩ : ∃ x2, x2 = c2 + 256 * x3 := ⟨_, rfl⟩
  obtain ⟨x1, h1⟩ : ∃ x1, x1 = c1 + 256 * x2 := ⟨_, rfl⟩
  have h0 : x0 = c0 + 256 * x1 := by omega
  clear h
  have e1 : x0 / 256 = x1 := by omega
  rw [e1]
  have e2 : (x0 + x1) / 65536 = x2 + x3 := by
    rw [h0, h1, show c0 + 256 * (c1 + 256 * x2) + (c1 + 256 * x2) = (c0 + c1 + 256 * (c1 + c2)) + 65536 * (x2 + x3) by omega]
    omega
  rw [e2]
  have e3 : (x0 + x1 + (x2 + x3)) / 4294967296 = x4 + x5 + (x6 + x7) := by
    have : x0 + x1 + (x2 + x3) = ((c0 + c1 + c2 + c3) + 256 * (c1 + c2 + c3 + c4) + 65536 * (c2 + c3 + c4 + c5) + 16777216 * (c3 + c4 + c5 + c6)) + 4294967296 * (x4 + x5 + (x6 + x7)) := by omega
    rw [this]
    omega
  rw [e3]
  have : x0 + x1 + (x2 + x3) + (x4 + x5 + (x6 + x7)) = (c0 + c1 + c2 + c3 + c4 + c5 + c6 + c7) + 128 * (2 * (x1 + x2 + x3 + x4 + x5 + x6 + x7)) := by omega
  rw [this]
  omega
theorem swar_eq {x : Nat} (h : x < 2 ^ 63) : swar x = popN x ∧ sw 8 x ≤ 8 * 72340172838076673 := by
  obtain ⟨cs, h1, h2, h3, h4⟩ := sw_eq 8 x (by omega)
  match cs, h1 with
  | [c0, c1, c2, c3, c4, c5, c6, c7], _ =>
    have h64 : (bitsDown x 64).length = popN x := by
      have := bitsDown_high (u := x) (k := 63) h 1
      rw [this]
      rfl
    simp only [List.mem_cons, List.not_mem_nil, or_false, forall_eq_or_imp, forall_eq, List.sum_cons, List.sum_nil] at h2 h3
    simp only [List.foldr_cons, List.foldr_nil] at h4
    rw [show 8 * 8 = 64 from rfl, h64] at h3
    obtain ⟨a0, a1, a2, a3, a4, a5, a6, a7⟩ := h2
    rw [← h3]
    refine ⟨swar_sum h4 a0 a1 a2 a3 a4 a5 a6 a7, by omega⟩
/-! ### Trailing ones -/
theorem compl_and {K m : Nat} (h : m < 2 ^ K) : (2 ^ K - (m + 1)) &&& m = 0 := by
  apply Nat.eq_of_testBit_eq
  intro i
  rw [Nat.testBit_and, Nat.testBit_two_pow_sub_succ h, Nat.zero_testBit]
  by_cases hi : m.testBit i <;> simp [hi]
theorem tones_and : ∀ (N n : Nat), n + 1 < 2 ^ N → (2 ^ N - (n + 1)) &&& (n + 1) = 2 ^ tonesF N n ∧ tonesF N n < N
  | 0, n, h => by omega
  | N + 1, n, h => by
    rw [Nat.pow_succ] at h
    rw [tonesF]
    split
    · rename_i ho
      obtain ⟨h1, h2⟩ := tones_and N (n / 2) (by omega)
      have e := and_split (j := 1) (a := 0) (c := 0) (b := 2 ^ N - (n / 2 + 1)) (d := n / 2 + 1) (by omega) (by omega)
      rw [h1] at e
      rw [show 2 ^ (N + 1) - (n + 1) = 0 + 2 ^ 1 * (2 ^ N - (n / 2 + 1)) by rw [Nat.pow_succ]; omega, show n + 1 = 0 + 2 ^ 1 * (n / 2 + 1) by omega]
      refine ⟨?_, by omega⟩
      rw [e, Nat.pow_succ]
      simp
      omega
    · rename_i ho
      have e := and_split (j := 1) (a := 1) (c := 1) (b := 2 ^ N - (n / 2 + 1)) (d := n / 2) (by omega) (by omega)
      rw [compl_and (by omega)] at e
      have e1 : 2 ^ (N + 1) - (n + 1) = 1 + 2 ^ 1 * (2 ^ N - (n / 2 + 1)) := by rw [Nat.pow_succ]; omega
      have e2 : n + 1 = 1 + 2 ^ 1 * (n / 2) := by omega
      rw [e1]
      refine ⟨?_, by omega⟩
      rw [e2, e]
      rfl
theorem tonesF_high : ∀ (f n : Nat), n + 1 < 2 ^ f → tonesF (f + 1) n = tonesF f n
  | 0, n, h => by omega
  | f + 1, n, h => by
    rw [Nat.pow_succ] at h
    rw [show tonesF (f + 1 + 1) n = if n % 2 = 1 then tonesF (f + 1) (n / 2) + 1 else 0 from rfl, show tonesF (f + 1) n = if n % 2 = 1 then tonesF f (n / 2) + 1 else 0 from rfl]
    split
    · rw [tonesF_high f (n / 2) (by omega)]
    · rfl
theorem len_half (n k : Nat) : (bitsDown n (k + 1)).length = n % 2 + (bitsDown (n / 2) k).length := by
  have := len_split (j := 1) (a := n % 2) (b := n / 2) (Nat.mod_lt _ (by omega)) k
  rw [show n % 2 + 2 ^ 1 * (n / 2) = n by omega, Nat.add_comm 1 k] at this
  rw [this]
  congr 1
  rcases Nat.mod_two_eq_zero_or_one n with h | h <;> rw [h] <;> decide
theorem tonesF_le : ∀ (f n : Nat), tonesF f n ≤ (bitsDown n f).length
  | 0, n => by simp [tonesF]
  | f + 1, n => by
    rw [tonesF, len_half]
    split
    · have := tonesF_le f (n / 2)
      omega
    · omega
theorem tones_le {n : Nat} (h : n < 2 ^ 62) : tones n ≤ popN n ∧ tones n ≤ 63 := by
  have h1 : tones n = tonesF 63 n := tonesF_high 63 n (by omega)
  have h2 := tonesF_le 63 n
  have h3 := bitsDown_len n 63
  rw [h1]
  exact ⟨h2, by omega⟩
theorem tones_odd {n : Nat} (h : n < 2 ^ 62) (ho : n % 2 = 1) : tones n = tones (n / 2) + 1 := by
  unfold tones
  rw [show (64 : Nat) = 63 + 1 from rfl, tonesF, if_pos ho, tonesF_high 63 (n / 2) (by omega)]
theorem tones_even {n : Nat} (ho : ¬ n % 2 = 1) : tones n = 0 := by
  unfold tones
  rw [show (64 : Nat) = 63 + 1 from rfl, tonesF, if_neg ho]
end Go.Proofs.YtnkkeehoejmcnaaDoor

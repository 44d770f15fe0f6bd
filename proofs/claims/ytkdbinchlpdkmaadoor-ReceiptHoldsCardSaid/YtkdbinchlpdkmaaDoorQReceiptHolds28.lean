/- Walks: what a path of growth leads to, the reference's.
   Walks: the reference's Checks.
   Plain: the way of growth, and what a path leads to along it.
   Walks: is it shown that one root has grown of another one, the program's. -/
import Derived.Test.YtkdbinchlpdkmaaDoorQReceiptHolds27
import Derived.Test.YtkdbinchlpdkmaaDoorQReceiptHolds08
set_option linter.unusedVariables false
set_option linter.unusedSimpArgs false
namespace Go.Proofs.YtkdbinchlpdkmaaDoor
open Go Go.RowKit Go.Proofs.E
attribute [local irreducible] Go.wpList Go.Code.wp Go.Proofs.E.exec Go.Proofs.E.wpLexG
def twoZ (a : Hs) (m n : Nat) (path : List Hs) (whole : Bool) : Hs × Hs × Bool :=
  if m = n then (if whole = true then (a, a, decide (path.length = 0)) else if path.length = 1 then (path.getD 0 zeroH, path.getD 0 zeroH, true) else (zeroH, zeroH, false))
  else if path.length = 0 then (zeroH, zeroH, false)
  else if m ≤ splitN n then
    ((twoZ a m (splitN n) (path.take (path.length - 1)) whole).1, nodeH (twoZ a m (splitN n) (path.take (path.length - 1)) whole).2.1 (path.getD (path.length - 1) zeroH), (twoZ a m (splitN n) (path.take (path.length - 1)) whole).2.2)
  else (nodeH (path.getD (path.length - 1) zeroH) (twoZ a (m - splitN n) (n - splitN n) (path.take (path.length - 1)) false).1, nodeH (path.getD (path.length - 1) zeroH) (twoZ a (m - splitN n) (n - splitN n) (path.take (path.length - 1)) false).2.1,
    (twoZ a (m - splitN n) (n - splitN n) (path.take (path.length - 1)) false).2.2)
termination_by path.length
decreasing_by all_goals (rw [List.length_take]; omega)
theorem twoZ_whole {a : Hs} {m n : Nat} {path : List Hs} (h : m = n) : twoZ a m n path true = (a, a, decide (path.length = 0)) := by
  rw [twoZ, if_pos h, if_pos rfl]
theorem twoZ_one {a : Hs} {m n : Nat} {path : List Hs} (h : m = n) (h1 : path.length = 1) : twoZ a m n path false = (path.getD 0 zeroH, path.getD 0 zeroH, true) := by
  rw [twoZ, if_pos h, if_neg (by simp), if_pos h1]
theorem twoZ_not {a : Hs} {m n : Nat} {path : List Hs} (h : m = n) (h1 : path.length ≠ 1) : twoZ a m n path false = (zeroH, zeroH, false) := by
  rw [twoZ, if_pos h, if_neg (by simp), if_neg h1]
theorem twoZ_nil {a : Hs} {m n : Nat} {path : List Hs} {whole : Bool} (h : m ≠ n) (h1 : path.length = 0) : twoZ a m n path whole = (zeroH, zeroH, false) := by
  rw [twoZ, if_neg h, if_pos h1]
theorem twoZ_left {a : Hs} {m n : Nat} {path : List Hs} {whole : Bool} (h : m ≠ n) (h1 : path.length ≠ 0) (h2 : m ≤ splitN n) {X Y : Hs} {ok : Bool} (e : twoZ a m (splitN n) (path.take (path.length - 1)) whole = (X, Y, ok)) :
    twoZ a m n path whole = (X, nodeH Y (path.getD (path.length - 1) zeroH), ok) := by
  rw [twoZ, if_neg h, if_neg h1, if_pos h2, e]
theorem twoZ_right {a : Hs} {m n : Nat} {path : List Hs} {whole : Bool} (h : m ≠ n) (h1 : path.length ≠ 0) (h2 : ¬ m ≤ splitN n) {X Y : Hs} {ok : Bool} (e : twoZ a (m - splitN n) (n - splitN n) (path.take (path.length - 1)) false = (X, Y, ok)) :
    twoZ a m n path whole = (nodeH (path.getD (path.length - 1) zeroH) X, nodeH (path.getD (path.length - 1) zeroH) Y, ok) := by
  rw [twoZ, if_neg h, if_neg h1, if_neg h2, e]
end Go.Proofs.YtkdbinchlpdkmaaDoor
set_option linter.unusedVariables false
set_option linter.unusedSimpArgs false
namespace Go.Proofs.YtkdbinchlpdkmaaDoor
open Go Go.RowKit Go.Proofs.E
attribute [local irreducible] Go.wpList Go.Code.wp Go.Proofs.E.exec Go.Proofs.E.wpLexG
def inK (m n : Int) : Bool := decide (1 ≤ m) && decide (m ≤ n) && decide (n ≤ 1099511627776)
theorem inK_t {m n : Int} (h1 : 1 ≤ m) (h2 : m ≤ n) (h3 : n ≤ 1099511627776) : inK m n = true := by
  unfold inK
  rw [decide_eq_true h1, decide_eq_true h2, decide_eq_true h3]
  rfl
theorem inK_f {m n : Int} (h : m < 1 ∨ n < m ∨ 1099511627776 < n) : inK m n = false := by
  cases hc : inK m n with
  | false => rfl
  | true =>
    unfold inK at hc
    simp only [Bool.and_eq_true, decide_eq_true_eq] at hc
    omega
def twoOk (a b : Hs) (r : Hs × Hs × Bool) : Bool := r.2.2 && decide (r.1 = a) && decide (r.2.1 = b)
def checksZ (a b : Hs) (m n : Int) (path : List Hs) : Bool := inK m n && twoOk a b (twoZ a m.toNat n.toNat path true)
theorem checksZ_f {a b : Hs} {m n : Int} {path : List Hs} (h : inK m n = false) : checksZ a b m n path = false := by unfold checksZ; rw [h]; rfl
theorem hs_eq {x y : Hs} : decide (x.1 = y.1) = decide (x = y) := by
  rw [decide_eq_decide]
  exact ⟨fun h => Subtype.ext h, fun h => congrArg Subtype.val h⟩
end Go.Proofs.YtkdbinchlpdkmaaDoor
set_option linter.unusedVariables false
set_option linter.unusedSimpArgs false
namespace Go.Proofs.YtkdbinchlpdkmaaDoor
open Go Go.RowKit Go.Proofs.E
def growF : Nat → Nat → Nat → List (Nat × Bool)
  | 0, _, _ => []
  | f + 1, m, n => if n ≤ m then [] else if m ≤ splitN n then (n, false) :: growF f m (splitN n) else (n, true) :: growF f (m - splitN n) (n - splitN n)
def growN (m n : Nat) : List (Nat × Bool) := growF n m n
theorem growF_any : ∀ (f g m n : Nat), n ≤ f → n ≤ g → 1 ≤ m → n ≤ 9223372036854775807 → growF f m n = growF g m n
  | 0, 0, m, n, _, _, _, _ => rfl
  | 0, g + 1, m, n, h, _, _, _ => by rw [growF, growF, if_pos (by omega)]
  | f + 1, 0, m, n, _, h, _, _ => by rw [growF, growF, if_pos (by omega)]
  | f + 1, g + 1, m, n, hf, hg, h1, hb => by
    rw [growF, growF]
    by_cases h : n ≤ m
    · rw [if_pos h, if_pos h]
    · rw [if_neg h, if_neg h]
      have := splitN_lt (n := n) (by omega) hb
      by_cases h2 : m ≤ splitN n
      · rw [if_pos h2, if_pos h2, growF_any f g m (splitN n) (by omega) (by omega) h1 (by omega)]
      · rw [if_neg h2, if_neg h2, growF_any f g (m - splitN n) (n - splitN n) (by omega) (by omega) (by omega) (by omega)]
theorem grow_nil {m n : Nat} (h : n ≤ m) : growN m n = [] := by
  unfold growN
  cases n with
  | zero => rfl
  | succ n => rw [growF, if_pos h]
theorem grow_left {m n : Nat} (h1 : 1 ≤ m) (h2 : m < n) (hb : n ≤ 9223372036854775807) (hi : m ≤ splitN n) : growN m n = (n, false) :: growN m (splitN n) := by
  have := splitN_lt (n := n) (by omega) hb
  unfold growN
  obtain ⟨f, rfl⟩ : ∃ f, n = f + 1 := ⟨n - 1, by omega⟩
  conv => lhs; rw [growF]
  rw [if_neg (by omega), if_pos hi, growF_any f (splitN (f + 1)) _ _ (by omega) (Nat.le_refl _) h1 (by omega)]
theorem grow_right {m n : Nat} (h1 : 1 ≤ m) (h2 : m < n) (hb : n ≤ 9223372036854775807) (hi : ¬ m ≤ splitN n) : growN m n = (n, true) :: growN (m - splitN n) (n - splitN n) := by
  have := splitN_lt (n := n) (by omega) hb
  unfold growN
  obtain ⟨f, rfl⟩ : ∃ f, n = f + 1 := ⟨n - 1, by omega⟩
  conv => lhs; rw [growF]
  rw [if_neg (by omega), if_neg hi, growF_any f (f + 1 - splitN (f + 1)) _ _ (by omega) (Nat.le_refl _) (by omega) (by omega)]
theorem growF_len : ∀ f m n, (growF f m n).length ≤ f
  | 0, _, _ => Nat.le_refl _
  | f + 1, m, n => by
    rw [growF]
    split
    · simp
    · split
      · have := growF_len f m (splitN n)
        simp
        omega
      · have := growF_len f (m - splitN n) (n - splitN n)
        simp
        omega
theorem grow_len (m n : Nat) : (growN m n).length ≤ n := growF_len n m n
/-- One step up, of the first and of all. -/
def stepK (q : List Hs) (s : Hs × Hs) (x : Nat × (Nat × Bool)) : Hs × Hs := if x.2.2 = true then (nodeH (q.getD x.1 zeroH) s.1, nodeH (q.getD x.1 zeroH) s.2) else (s.1, nodeH s.2 (q.getD x.1 zeroH))
def foldK (q : List Hs) (s : Hs) (ts : List (Nat × Bool)) : Hs × Hs := (upl ts).foldl (stepK q) (s, s)
def anyR (ts : List (Nat × Bool)) : Bool := ts.any (·.2)
def qOf (W : Bool) (path : List Hs) : List Hs := if W = true then path else path.drop 1
def sOf (W : Bool) (a : Hs) (path : List Hs) : Hs := if W = true then a else path.getD 0 zeroH
def one (W : Bool) : Nat := if W = true then 0 else 1
theorem foldK_take {q : List Hs} {k : Nat} : ∀ (xs : List (Nat × (Nat × Bool))) (s : Hs × Hs), (∀ x ∈ xs, x.1 < k) → xs.foldl (stepK (q.take k)) s = xs.foldl (stepK q) s
  | [], s, _ => rfl
  | x :: xs, s, hk => by
    have e : stepK (q.take k) s x = stepK q s x := by
      unfold stepK
      have := hk x (by simp)
      rw [List.getD_eq_getElem?_getD, List.getD_eq_getElem?_getD, List.getElem?_take, if_pos this]
    rw [List.foldl_cons, List.foldl_cons, e, foldK_take xs _ (fun y hy => hk y (by simp [hy]))]
theorem foldK_cons {q : List Hs} {s : Hs} {t : Nat × Bool} {ts : List (Nat × Bool)} : foldK q s (t :: ts) = stepK q (foldK (q.take ts.length) s ts) (ts.length, t) := by
  unfold foldK
  rw [upl_cons, List.foldl_append, foldK_take _ _ (fun x hx => upl_mem hx)]
  rfl
theorem parts_of {W : Bool} {a : Hs} {path : List Hs} {k : Nat} (h : path.length = k + 1 + one W) :
    qOf W (path.take (path.length - 1)) = (qOf W path).take k ∧ sOf W a (path.take (path.length - 1)) = sOf W a path ∧ (qOf W path).getD k zeroH = path.getD (path.length - 1) zeroH := by
  cases W with
  | true =>
    have h : path.length = k + 1 := h
    refine ⟨?_, rfl, ?_⟩
    · show path.take _ = path.take _
      rw [show path.length - 1 = k by omega]
    · show path.getD k zeroH = _
      rw [show path.length - 1 = k by omega]
  | false =>
    have h : path.length = k + 2 := h
    refine ⟨?_, ?_, ?_⟩
    · show (path.take _).drop 1 = (path.drop 1).take k
      rw [List.drop_take, show path.length - 1 - 1 = k by omega]
    · show (path.take _).getD 0 zeroH = path.getD 0 zeroH
      rw [List.getD_eq_getElem?_getD, List.getD_eq_getElem?_getD, List.getElem?_take, if_pos (by omega)]
    · show (path.drop 1).getD k zeroH = _
      rw [List.getD_eq_getElem?_getD, List.getD_eq_getElem?_getD, List.getElem?_drop, show path.length - 1 = 1 + k by omega]
theorem two_grow (a : Hs) (L : Nat) : ∀ (m n : Nat) (path : List Hs) (whole : Bool), path.length = L → 1 ≤ m → m ≤ n → n ≤ 9223372036854775807 →
    ∃ W, W = (whole && !anyR (growN m n)) ∧ (twoZ a m n path whole).2.2 = decide (path.length = (growN m n).length + one W) ∧
      (path.length = (growN m n).length + one W → ((twoZ a m n path whole).1, (twoZ a m n path whole).2.1) = foldK (qOf W path) (sOf W a path) (growN m n)) := by
  induction L using Nat.strongRecOn with
  | _ L ih =>
  intro m n path whole hL h1 hmn hb
  refine ⟨_, rfl, ?_⟩
  by_cases h : m = n
  · rw [grow_nil (by omega)]
    cases whole with
    | true =>
      rw [twoZ_whole h]
      exact ⟨rfl, fun _ => rfl⟩
    | false =>
      by_cases hl : path.length = 1
      · rw [twoZ_one h hl]
        exact ⟨(decide_eq_true hl).symm, fun _ => rfl⟩
      · rw [twoZ_not h hl]
        exact ⟨(decide_eq_false hl).symm, fun h => absurd h hl⟩
  · by_cases h0 : path.length = 0
    · rw [twoZ_nil h h0]
      have : growN m n ≠ [] := by
        by_cases hi : m ≤ splitN n
        · rw [grow_left h1 (by omega) hb hi]; simp
        · rw [grow_right h1 (by omega) hb hi]; simp
      have := List.length_pos_iff.2 this
      exact ⟨(decide_eq_false (by omega)).symm, fun h => absurd h (by omega)⟩
    · have hsp := splitN_lt (n := n) (by omega) hb
      by_cases hi : m ≤ splitN n
      · obtain ⟨W, hW, hok, hf⟩ := ih (path.length - 1) (by omega) m (splitN n) (path.take (path.length - 1)) whole (by rw [List.length_take]; omega) h1 hi (by omega)
        rcases hz : twoZ a m (splitN n) (path.take (path.length - 1)) whole with ⟨X, Y, ok⟩
        rw [hz] at hok hf
        have hW' : (whole && !anyR (growN m n)) = W := by rw [hW, grow_left h1 (by omega) hb hi]; rfl
        rw [hW', twoZ_left h h0 hi hz, grow_left h1 (by omega) hb hi, List.length_cons]
        rw [List.length_take] at hok hf
        refine ⟨hok.trans (decide_eq_decide.2 (by omega)), fun hl => ?_⟩
        have hp := parts_of (W := W) (a := a) (k := (growN m (splitN n)).length) hl
        have := hf (by omega)
        rw [hp.1, hp.2.1] at this
        rw [foldK_cons, ← this]
        unfold stepK
        rw [if_neg (by simp), hp.2.2]
      · obtain ⟨W, hW, hok, hf⟩ := ih (path.length - 1) (by omega) (m - splitN n) (n - splitN n) (path.take (path.length - 1)) false (by rw [List.length_take]; omega) (by omega) (by omega) (by omega)
        rcases hz : twoZ a (m - splitN n) (n - splitN n) (path.take (path.length - 1)) false with ⟨X, Y, ok⟩
        rw [hz] at hok hf
        have hW' : (whole && !anyR (growN m n)) = W := by rw [hW, grow_right h1 (by omega) hb hi]; simp [anyR]
        rw [hW', twoZ_right h h0 hi hz, grow_right h1 (by omega) hb hi, List.length_cons]
        rw [List.length_take] at hok hf
        refine ⟨hok.trans (decide_eq_decide.2 (by omega)), fun hl => ?_⟩
        have hp := parts_of (W := W) (a := a) (k := (growN (m - splitN n) (n - splitN n)).length) hl
        have := hf (by omega)
        rw [hp.1, hp.2.1] at this
        rw [foldK_cons, ← this]
        unfold stepK
        rw [if_pos rfl, hp.2.2]
/-- What the program says, along the way ts. -/
theorem checksZ_way {a b : Hs} {m n : Nat} {path : List Hs} {W : Bool} (h1 : 1 ≤ m) (hmn : m ≤ n) (hn : n ≤ 1099511627776) (hW : W = !anyR (growN m n)) :
    (path.length ≠ (growN m n).length + one W → checksZ a b (m : Int) (n : Int) path = false) ∧
    (path.length = (growN m n).length + one W → checksZ a b (m : Int) (n : Int) path = (decide ((foldK (qOf W path) (sOf W a path) (growN m n)).1 = a) && decide ((foldK (qOf W path) (sOf W a path) (growN m n)).2 = b))) := by
  obtain ⟨W', hW', hok, hf⟩ := two_grow a path.length m n path true rfl h1 hmn (by omega)
  have : W' = W := by rw [hW', hW]; rfl
  subst this
  have hin := inK_t (m := m) (n := n) (by omega) (by omega) (by omega)
  unfold checksZ
  rw [hin, Int.toNat_natCast, Int.toNat_natCast]
  unfold twoOk
  rw [hok]
  refine ⟨fun h => ?_, fun h => ?_⟩
  · rw [decide_eq_false h]
    rfl
  · rw [decide_eq_true h, ← hf h]
    rfl
end Go.Proofs.YtkdbinchlpdkmaaDoor
set_option linter.unusedVariables false
set_option linter.unusedSimpArgs false
namespace Go.Proofs.YtkdbinchlpdkmaaDoor
open Go Go.RowKit Go.Proofs.E
attribute [local irreducible] Go.wpList Go.Code.wp Go.Proofs.E.exec Go.Proofs.E.wpLexG
theorem anyR_snoc {ts : List (Nat × Bool)} {t : Nat × Bool} : anyR (ts ++ [t]) = (anyR ts || t.2) := by unfold anyR; rw [List.any_append]; simp
set_option maxHeartbeats 16000000 in
theorem checks_any (a b : Hs) (m n : Int) (v : Value) (path : List Hs) (w : World) (hK : Laid w) (hR : (Ty.enc eH).Rd [] w v path) :
    Calls Tryd.prog 89 #[hv a.1, hv b.1, .int .i64 m, .int .i64 n, v] w (Ret fun u w' => u = .bool (checksZ a b m n path) ∧ Ch [] w w') := by
  refine enterM [hv a.1, hv b.1, .int .i64 m, .int .i64 n, v, undef, undef, undef, undef, undef, undef, undef, undef, undef, undef, undef, undef, undef, undef, undef, undef, undef, undef, undef, undef, undef, undef, undef, undef, undef, undef, undef, undef, undef, undef, undef, undef, undef, undef, undef, undef, undef, undef, undef, undef, undef, undef, undef, undef, undef, undef, undef, undef, undef, undef, undef, undef, undef, undef, undef, undef, undef, undef, undef, undef, undef, undef, undef, undef, undef, undef, undef, undef, undef, undef, undef, undef, undef, undef, undef, undef, undef, undef, undef, undef, undef, undef, undef, undef, undef, undef, undef, undef, undef, undef, undef, undef, undef, undef, undef, undef, undef, undef, undef, undef, undef, undef, undef] Tryd.func89 rfl rfl ?_
  have hple := hR.le
  obtain ⟨A, cap, rfl⟩ := hR.form
  (try refine wk ?_)
  refine wl_box rfl (fun w1 b5 hb5 => ?_)
  refine wl_box rfl (fun w2 b6 hb6 => ?_)
  refine wl_box rfl (fun w3 b9 hb9 => ?_)
  have hB9 : Blk w3 b9 [.slice A path.length cap] 27 := hb9.blk
  have hB6 : Blk w3 b6 (b.1.map u8v) 30 := Blk.ch (show Blk w2 b6 (b.1.map u8v) 30 from hb6.blk) hb9.ch (by simp)
  have hB5 : Blk w3 b5 (a.1.map u8v) 30 := (Blk.ch (show Blk w1 b5 (a.1.map u8v) 30 from hb5.blk) hb6.ch (by simp)).ch hb9.ch (by simp)
  have e5 := hb5.at_
  have e6 := hb6.at_
  have e9 := hb9.at_
  have s5 := hb5.size
  have s6 := hb6.size
  have s9 := hb9.size
  have hc3 : Ch [] w w3 := (hb5.ch.then hb6.ch).then hb9.ch
  by_cases h1 : m < 1
  · (try refine wk ?_)
    refine c_condb rfl (fun _ => ?_) (fun h => by cases h)
    (try refine wk ?_)
    exact post0 (out1 rfl ⟨by rw [checksZ_f (inK_f (by omega))]; rfl, hc3⟩)
  · by_cases h2 : n < m
    · (try refine wk ?_)
      refine c_condb rfl (fun _ => ?_) (fun h => by cases h)
      (try refine wk ?_)
      exact post0 (out1 rfl ⟨by rw [checksZ_f (inK_f (by omega))]; rfl, hc3⟩)
    · by_cases h3 : 1099511627776 < n
      · (try refine wk ?_)
        refine c_cond rfl (fun _ => ?_) (fun h => absurd h3 h)
        (try refine wk ?_)
        exact post0 (out1 rfl ⟨by rw [checksZ_f (inK_f (by omega))]; rfl, hc3⟩)
      · obtain ⟨N, rfl⟩ := Int.eq_ofNat_of_zero_le (by omega : 0 ≤ n)
        obtain ⟨M, rfl⟩ := Int.eq_ofNat_of_zero_le (by omega : 0 ≤ m)
        have hgl := grow_len M N
        (try refine wk ?_)
        refine c_cond rfl (fun h => absurd h h3) (fun _ => ?_)
        (try refine wk ?_)
        
        refine c_loop (fun k l w' => ∃ (m' k' : Nat) (v : Value) (xs : List (Nat × Bool)), (∃ jj : Nat → Value, l = [jj 0, jj 1, .int .i64 (m' : Int), jj 3, jj 4, .pointer (some ⟨b5, 0, none⟩), .pointer (some ⟨b6, 0, none⟩), jj 7, jj 8, .pointer (some ⟨b9, 0, none⟩), jj 10, v, .bool (!anyR xs), .int .i64 (k' : Int), jj 14, jj 15, jj 16, jj 17, jj 18, jj 19, jj 20, jj 21, jj 22, jj 23, jj 24, jj 25, jj 26, jj 27, jj 28, jj 29, jj 30, jj 31, jj 32, jj 33, jj 34, jj 35, jj 36, jj 37, jj 38, jj 39, jj 40, jj 41, jj 42, jj 43, jj 44, jj 45, jj 46, jj 47, jj 48, jj 49, jj 50, jj 51, jj 52, jj 53, jj 54, jj 55, jj 56, jj 57, jj 58, jj 59, jj 60, jj 61, jj 62, jj 63, jj 64, jj 65, jj 66, jj 67, jj 68, jj 69, jj 70, jj 71, jj 72, jj 73, jj 74, jj 75, jj 76, jj 77, jj 78, jj 79, jj 80, jj 81, jj 82, jj 83, jj 84, jj 85, jj 86, jj 87, jj 88, jj 89, jj 90, jj 91, jj 92, jj 93, jj 94, jj 95, jj 96, jj 97, jj 98, jj 99, jj 100, jj 101, jj 102, jj 103, jj 104, jj 105, jj 106, jj 107]) ∧ k = k' ∧ k' ≤ 1099511627776 ∧ 1 ≤ m' ∧ m' ≤ k' ∧ xs ++ growN m' k' = growN M N ∧ Ch [] w3 w' ∧ Go.Proofs.E.Own eT w' w3.heap.size 183 v xs) N
          ⟨M, N, _, [], exj rfl, rfl, by omega, by omega, by omega, rfl, Ch.refl _ _, Go.Proofs.E.Own.nil _ _ _ _⟩ ?_
        rintro k l w4 ⟨m', k', v, xs, ⟨jj, rfl⟩, rfl, hk', hm1, hmk, hxs, hc4, hO⟩
        have hxl := congrArg List.length hxs
        rw [List.length_append] at hxl
        (try refine wk ?_)
        refine c_cond rfl (fun h1 => ?_) (fun h1 => ?_)
        · obtain ⟨hk0, hk1⟩ := splitN_lt (n := k) (by omega) (by omega)
          (try refine wk ?_)
          (try ((with_reducible apply is_gd); first | refine gt ?_ | refine gf ?_ | refine gu ?_)); refine ca (split_any (k : Int) (by omega) w4) ?_
          rintro _ w5 ⟨rfl, hw5⟩
          subst hw5
          rw [splitZ_nat]
          (try refine wk ?_)
          refine c_cond rfl (fun h2 => ?_) (fun h2 => ?_)
          · have htu := grow_left (m := m') (n := k) (by omega) (by omega) (by omega) (by omega)
            rw [htu, List.length_cons] at hxl
            (try refine wk ?_)
            (try ((with_reducible apply is_gd); first | refine gt ?_ | refine gf ?_ | refine gu ?_)); refine wl_val (r_build2 Tryd.underlying183 rfl rfl rfl rfl rfl rfl rfl rfl rfl rfl) ?_
            (try ((with_reducible apply is_gd); first | refine gt ?_ | refine gf ?_ | refine gu ?_)); refine pu (k, false) hO hc4.size (fun _ v3 w6 hO3 hch3 hat3 => ?_)
            have hc6 : Ch [] w3 w6 := hc4.trans hch3 (by simp) (fun x hx hm => by
              have := (hO.lt (k := x) (by simpa using hm)).1
              omega)
            (try refine wk ?_)
            exact x_goes (splitN k) rfl (by omega) ⟨m', splitN k, v3, xs ++ [(k, false)], exj (by rw [anyR_snoc, Bool.or_false]; rfl), rfl, by omega, by omega, by omega, by rw [List.append_assoc]; rw [htu] at hxs; exact hxs, hc6, hO3⟩
          · have htu := grow_right (m := m') (n := k) (by omega) (by omega) (by omega) (by omega)
            rw [htu, List.length_cons] at hxl
            (try refine wk ?_)
            (try ((with_reducible apply is_gd); first | refine gt ?_ | refine gf ?_ | refine gu ?_)); refine wl_val (r_build2 Tryd.underlying183 rfl rfl rfl rfl rfl rfl rfl rfl rfl rfl) ?_
            (try ((with_reducible apply is_gd); first | refine gt ?_ | refine gf ?_ | refine gu ?_)); refine pu (k, true) hO hc4.size (fun _ v3 w6 hO3 hch3 hat3 => ?_)
            have hc6 : Ch [] w3 w6 := hc4.trans hch3 (by simp) (fun x hx hm => by
              have := (hO.lt (k := x) (by simpa using hm)).1
              omega)
            (try refine wk ?_)
            exact x_goes (k - splitN k) rfl (by omega) ⟨m' - splitN k, k - splitN k, v3, xs ++ [(k, true)], exj (by rw [anyR_snoc, Bool.or_true, show ((k - splitN k : Nat) : Int) = (k : Int) - (splitN k : Int) by omega, show ((m' - splitN k : Nat) : Int) = (m' : Int) - (splitN k : Int) by omega]; rfl), rfl, by omega, by omega, by omega, by rw [List.append_assoc]; rw [htu] at hxs; exact hxs, hc6, hO3⟩
        · rw [grow_nil (by omega), List.append_nil] at hxs
          subst hxs
          have hway := checksZ_way (a := a) (b := b) (m := M) (n := N) (path := path) (by omega) (by omega) (by omega) rfl
          generalize growN M N = xs at hway hO hgl
          generalize hWe : (!anyR xs) = W at hway ⊢
          have hB5 := hB5.ch hc4 (by simp)
          have hB6 := hB6.ch hc4 (by simp)
          have hB9 := hB9.ch hc4 (by simp)
          have hc4' : Ch [] w w4 := hc3.then hc4
          have z4 := hc4.size
          (try refine wk ?_)
          refine c_ordY ([], []) [] (by kernel_rfl) (by kernel_rfl) (by kernel_rfl) (fun w5 hc5 hs5 => ?_)
          refine ynlr 0 rfl (n := 32) (hB5.ch hc5 (by simp)) (by omega) (by simp) rfl (ds := a.1.map u8v) (by simp [List.take_of_length_le, a.2]) (by simp [a.2]) ?_
          refine ynlr 1 rfl (n := 32) (hB5.ch hc5 (by simp)) (by omega) (by simp) rfl (ds := a.1.map u8v) (by simp [List.take_of_length_le, a.2]) (by simp [a.2]) ?_
          refine yal2 2 3 (by kernel_rfl) rfl rfl (by decide) (by decide) (by kernel_rfl) (by kernel_rfl) (fun w6 bx by_ hc6 hBx hBy hxy hxl' hyl => ?_)
          have hx0 : Blk w6 bx ((List.replicate 32 (0 : UInt8)).map u8v) 30 := hBx
          have hy0 : Blk w6 by_ ((List.replicate 32 (0 : UInt8)).map u8v) 30 := hBy
          refine yst (n := 32) 4 (by kernel_rfl) rfl hx0 (.inl (by omega)) rfl rfl (hv_len a.2) (by simp) one_u8 (fun w7 hBx hc7 => ?_)
          refine yst (n := 32) 5 (by kernel_rfl) rfl (hy0.ch hc7 (by simp; omega)) (.inl (by omega)) rfl rfl (hv_len a.2) (by simp) one_u8 (fun w8 hBy hc8 => ?_)
          refine wy_done (by kernel_rfl) (fun w9 hc9 => ?_)
          have z5 := hc5.size
          have z6 := hc6.size
          have hcs : Ch [] w4 w9 := (((hc5.then hc6).own hc7 (by omega)).own hc8 (by omega)).then hc9
          have hBx := (hBx.ch hc8 (by simp; omega)).ch hc9 (by simp)
          have hBy := hBy.ch hc9 (by simp)
          have hB5 := hB5.ch hcs (by simp)
          have hB6 := hB6.ch hcs (by simp)
          have hB9 := hB9.ch hcs (by simp)
          have hc9' : Ch [] w w9 := hc4'.then hcs
          have hxls := hBx.lt
          have hyls := hBy.lt
          by_cases hq : W = false ∧ path.length = 0
          · obtain ⟨rfl, hp0⟩ := hq
            rw [hway.1 (by rw [hp0]; show 0 ≠ xs.length + 1; omega)]
            (try refine wk ?_)
            refine c_condb rfl (fun _ => ?_) (fun h => by cases h)
            (try refine wk ?_)
            refine ldb hB9 rfl rfl ?_
            (try refine wk ?_)
            refine c_cond rfl (fun _ => ?_) (fun h => absurd (by omega) h)
            (try refine wk ?_)
            exact post0 (out1 rfl ⟨rfl, hc9'⟩)
          · have hTr := hO.rd (S := [b9]) (fun k hk hm => by
              have := (hO.lt hk).1
              simp at hm
              omega) (by omega)
            obtain ⟨At, ct, rfl⟩ := hTr.form
            (try refine wk ?_)
            
            refine Code.wp_mono (Q := fun e a' w' => e = .normal ∧ ∃ (l : List Value) (v9 : Value), a' = fr l ∧ (∃ jj : Nat → Value, l = [jj 0, jj 1, jj 2, jj 3, jj 4, .pointer (some ⟨b5, 0, none⟩), .pointer (some ⟨b6, 0, none⟩), jj 7, jj 8, .pointer (some ⟨b9, 0, none⟩), jj 10, .slice At xs.length ct, jj 12, jj 13, jj 14, .pointer (some ⟨bx, 0, none⟩), .pointer (some ⟨by_, 0, none⟩), jj 17, jj 18, jj 19, jj 20, jj 21, jj 22, jj 23, jj 24, jj 25, jj 26, jj 27, jj 28, jj 29, jj 30, jj 31, jj 32, jj 33, jj 34, jj 35, jj 36, jj 37, jj 38, jj 39, jj 40, jj 41, jj 42, jj 43, jj 44, jj 45, jj 46, jj 47, jj 48, jj 49, jj 50, jj 51, jj 52, jj 53, jj 54, jj 55, jj 56, jj 57, jj 58, jj 59, jj 60, jj 61, jj 62, jj 63, jj 64, jj 65, jj 66, jj 67, jj 68, jj 69, jj 70, jj 71, jj 72, jj 73, jj 74, jj 75, jj 76, jj 77, jj 78, jj 79, jj 80, jj 81, jj 82, jj 83, jj 84, jj 85, jj 86, jj 87, jj 88, jj 89, jj 90, jj 91, jj 92, jj 93, jj 94, jj 95, jj 96, jj 97, jj 98, jj 99, jj 100, jj 101, jj 102, jj 103, jj 104, jj 105, jj 106, jj 107]) ∧ Ch [] w w' ∧ (Ty.enc eT).Rd [bx, by_] w' (.slice At xs.length ct) xs ∧ Blk w' b5 (a.1.map u8v) 30 ∧ Blk w' b6 (b.1.map u8v) 30 ∧ Blk w' b9 [v9] 27 ∧ (Ty.enc eH).Rd [bx, by_] w' v9 (qOf W path) ∧ Blk w' bx ((sOf W a path).1.map u8v) 30 ∧ Blk w' by_ ((sOf W a path).1.map u8v) 30) ?_ ?_
            rotate_left
            · have hRp : (Ty.enc eH).Rd [bx, by_] w9 (.slice A path.length cap) path := hR.mv (S' := [bx, by_]) hc9'.some (fun k hk hm => by simp at hm; omega)
              have hT9 : (Ty.enc eT).Rd [bx, by_, b9] w9 (.slice At xs.length ct) xs := hTr.mv (S' := [bx, by_, b9]) hcs.some (fun k hk hm => by simp at hm ⊢; omega)
              cases W with
              | true =>
                refine c_condb rfl (fun h => by cases h) (fun _ => ?_)
                (try refine wk ?_)
                exact ⟨rfl, _, _, rfl, exj rfl, hc9', hT9.mv (S' := [bx, by_]) (Ch.refl _ _) (fun k _ hm => by simp at hm ⊢; omega), hB5, hB6, hB9, hRp, hBx, hBy⟩
              | false =>
                have hp0 : path.length ≠ 0 := fun h => hq ⟨rfl, h⟩
                obtain ⟨g, hg⟩ : ∃ g, path[0]? = some g := ⟨_, List.getElem?_eq_getElem (by omega : 0 < path.length)⟩
                have hsg : sOf false a path = g := by show path.getD 0 zeroH = g; rw [List.getD_eq_getElem?_getD, hg]; rfl
                rw [hsg]
                refine c_condb rfl (fun _ => ?_) (fun h => by cases h)
                (try refine wk ?_)
                refine ldb hB9 rfl rfl ?_
                (try refine wk ?_)
                refine c_cond rfl (fun h => absurd h (by omega)) (fun _ => ?_)
                (try refine wk ?_)
                refine c_ordY ([10], []) [bx, by_] (by kernel_rfl) (by kernel_rfl) (by kernel_rfl) (fun w10 hc10 hs10 => ?_)
                have hB9' := hB9.ch hc10 (by simp)
                have hRp' := hRp.ch hc10.some
                refine ynl 0 rfl hB9' (by omega) (by simp; omega) rfl rfl ?_
                refine ynx 1 rfl hRp' rfl rfl rfl (by omega) (by simp; omega) (fun b1 o1 x1 hx1 hA1 => ?_)
                obtain rfl := Option.some.inj (hg.symm.trans hx1)
                have hA1b := hA1.1
                refine ynxl 2 rfl hA1 (by omega) rfl rfl ?_
                refine ynl 3 rfl hB9' (by omega) (by simp; omega) rfl rfl ?_
                refine ynx 4 rfl hRp' rfl rfl rfl (by omega) (by simp; omega) (fun b2 o2 x2 hx2 hA2 => ?_)
                obtain rfl := Option.some.inj (hg.symm.trans hx2)
                have hA2b := hA2.1
                refine ynxl 5 rfl hA2 (by omega) rfl rfl ?_
                refine ynl 6 rfl hB9' (by omega) (by simp; omega) rfl rfl ?_
                have hRq : (Ty.enc eH).Rd [bx, by_, b9] w10 (.slice A path.length cap) path := hR.mv (S' := [bx, by_, b9]) (hc9'.then hc10).some (fun k hk hm => by simp at hm; omega)
                refine yn_cut_lo 7 rfl hRq rfl rfl rfl (by omega) (by omega) (fun v9 hV => ?_)
                refine yst (n := 32) 8 (by kernel_rfl) rfl (hBx.ch hc10 (by simp)) (.inr (by simp)) rfl rfl (hv_len g.2) (by simp [a.2]) one_u8 (fun w11 hBx hc11 => ?_)
                refine yst (n := 32) 9 (by kernel_rfl) rfl ((hBy.ch hc10 (by simp)).ch hc11 (by simp; omega)) (.inr (by simp)) rfl rfl (hv_len g.2) (by simp [a.2]) one_u8 (fun w12 hBy hc12 => ?_)
                have hV : (Ty.enc eH).Rd [bx, by_, b9] w10 v9 (path.drop 1) := hV
                obtain ⟨A9, cap9, rfl⟩ := hV.form
                refine yn1 10 (by kernel_rfl) rfl (fun w13 hc13 => ?_)
                refine stb (((hB9'.ch hc11 (by simp; omega)).ch hc12 (by simp; omega)).ch hc13 (by simp)) rfl rfl rfl rfl (by simp) (fun w14 hB9'' hc14 hs14 => ?_)
                have z10 := hc10.size
                have z11 := hc11.size
                have z12 := hc12.size
                have z13 := hc13.size
                refine x_wy (.inr ⟨by decide, by omega⟩) rfl ?_
                refine wy_nf ?_
                refine wy_done (by kernel_rfl) (fun w15 hc15 => ?_)
                have hxa : Ch [bx, by_, b9] w10 w15 := (((((Ch.refl [bx, by_, b9] w10).into hc11 (.inr (by simp))).into hc12 (.inr (by simp))).add hc13).into hc14 (.inr (by simp))).add hc15
                have hxg : Ch [bx, by_, b9] w9 w15 := ((((hc10.some.into hc11 (.inr (by simp))).into hc12 (.inr (by simp))).add hc13).into hc14 (.inr (by simp))).add hc15
                have hcf : Ch [] w w15 := ((((hc9'.then hc10).own hc11 (by omega)).own hc12 (by omega)).then hc13).own hc14 (by omega) |>.then hc15
                have hTf : (Ty.enc eT).Rd [bx, by_] w15 (.slice At xs.length ct) xs := (hT9.ch hxg).mv (S' := [bx, by_]) (Ch.refl _ _) (fun k _ hm => by simp at hm ⊢; omega)
                have hB5f := hB5.ch hxg (by simp; omega)
                have hB6f := hB6.ch hxg (by simp; omega)
                have hVf : (Ty.enc eH).Rd [bx, by_] w15 (.slice A9 (path.drop 1).length cap9) (path.drop 1) := (hV.ch hxa).mv (S' := [bx, by_]) (Ch.refl _ _) (fun k _ hm => by simp at hm ⊢; omega)
                have hXf := (((hBx.ch hc12 (by simp; omega)).ch hc13 (by simp)).ch hc14 (by simp; omega)).ch hc15 (by simp)
                have hYf := ((hBy.ch hc13 (by simp)).ch hc14 (by simp; omega)).ch hc15 (by simp)
                exact ⟨rfl, _, _, rfl, exj rfl, hcf, hTf, hB5f, hB6f, hB9''.ch hc15 (by simp), hVf, hXf, hYf⟩
            · rintro e a' w10 ⟨rfl, l, v9, rfl, ⟨jj, rfl⟩, hc10, hTx, hB5, hB6, hB9, hRq, hBx, hBy⟩
              obtain ⟨Aq, capq, rfl⟩ := hRq.form
              have hpq : path.length = xs.length + one W ↔ (qOf W path).length = xs.length := by
                cases W with
                | true => exact Iff.rfl
                | false =>
                  have : path.length ≠ 0 := fun h => hq ⟨rfl, h⟩
                  show path.length = xs.length + 1 ↔ (path.drop 1).length = xs.length
                  rw [List.length_drop]
                  omega
              replace hway := And.intro (fun (h : ¬ (qOf W path).length = xs.length) => hway.1 (fun e => h (hpq.1 e))) (fun h => hway.2 (hpq.2 h))
              generalize qOf W path = q at hB9 hRq hway ⊢
              generalize sOf W a path = s at hBx hBy hway
              have z10 := hc10.size
              have hb5l := hB5.lt
              have hb6l := hB6.lt
              have hb9l := hB9.lt
              have hxls := hBx.lt
              have hyls := hBy.lt
              have hbxw : w.heap.size ≤ bx := by have := hc4'.size; omega
              have hbyw : w.heap.size ≤ by_ := by have := hc4'.size; omega
              (try refine wk ?_)
              refine ldb hB9 rfl rfl ?_
              (try refine wk ?_)
              refine c_cond rfl (fun h5 => ?_) (fun h5 => ?_)
              · rw [hway.1 (by omega)]
                (try refine wk ?_)
                exact post0 (out1 rfl ⟨rfl, hc10⟩)
              · rw [hway.2 (by omega)]
                have hlx : q.length = xs.length := by omega
                (try refine wk ?_)
                (try ((with_reducible apply is_gd); first | refine gt ?_ | refine gf ?_ | refine gu ?_)); refine ca (up_any _ w10 _ _ _ rfl) ?_
                rintro _ w11 ⟨bu, rfl, hbu⟩
                have eu := hbu.at_
                have szu := hbu.size
                have hB5 := hB5.ch hbu.ch (by simp)
                have hB6 := hB6.ch hbu.ch (by simp)
                have hB9 := hB9.ch hbu.ch (by simp)
                have hBx := hBx.ch hbu.ch (by simp)
                have hBy := hBy.ch hbu.ch (by simp)
                have hT11 := hTx.ch (S := [bx, by_]) hbu.ch.some
                have hQ11 := hRq.ch (S := [bx, by_]) hbu.ch.some
                have hc11 : Ch [] w w11 := hc10.then hbu.ch
                have hK11 := hK.ch hc11 (by simp)
                (try refine wk ?_)
                refine c_up 17 18 (S := [bx, by_]) hbu.blk (by simp; omega) (by simp; omega) hT11 (by omega) rfl
                  (fun pre W' => Blk W' b9 [.slice Aq q.length capq] 27 ∧ Blk W' b5 (a.1.map u8v) 30 ∧ Blk W' b6 (b.1.map u8v) 30 ∧ Blk W' bx ((pre.foldl (stepK q) (s, s)).1.1.map u8v) 30 ∧ Blk W' by_ ((pre.foldl (stepK q) (s, s)).2.1.map u8v) 30)
                  (fun pre W' W'' h hsame => ⟨(hsame _ (by omega)).trans h.1, (hsame _ (by omega)).trans h.2.1, (hsame _ (by omega)).trans h.2.2.1, (hsame _ (by omega)).trans h.2.2.2.1, (hsame _ (by omega)).trans h.2.2.2.2⟩) ⟨hB9, hB5, hB6, hBx, hBy⟩ ?_ ?_ ?_
                · intro r x W0 K hKK
                  refine wpIn_seq ?_
                  refine ci_region (noOut_then noOut_f) rfl ?_
                  refine st ?_
                  refine en ?_
                  refine x_then ?_
                  refine ci_region (noOut_then noOut_f) rfl ?_
                  refine wl_alloc (fun W1 b13 hb13 => ?_)
                  refine stbw (n := 2) (vs := eT.f x.2) hb13.blk rfl rfl rfl rfl (eT.h1 x.2) (fun W2 hB13 hch2 hs2 => ?_)
                  have e13 := hb13.at_
                  refine wl_nil ?_
                  exact hKK b13 W2 (by omega) (hb13.ch.own hch2 (by omega)) hB13
                · rintro r pre x bz W0 hxl0 hcW ⟨hW9, hW5, hW6, hWx, hWy⟩ hbz hBz
                  generalize hfd : pre.foldl (stepK q) (s, s) = hcur at hWx hWy
                  have hfd2 : (pre ++ [x]).foldl (stepK q) (s, s) = stepK q hcur x := by rw [List.foldl_append, hfd]; rfl
                  have hxp : x.1 < q.length := by omega
                  have hgd : q[x.1]? = some (q.getD x.1 zeroH) := by rw [List.getD_eq_getElem?_getD, List.getElem?_eq_getElem hxp]; rfl
                  have hKW := hK11.ch hcW (by have := hK.1; simp; omega)
                  have hPW := hQ11.ch hcW
                  obtain ⟨X, Y⟩ := hcur
                  obtain ⟨j, nn, right⟩ := x
                  have hX32 : ((X.1.map u8v).drop 0).take 32 = X.1.map u8v := by simp [List.take_of_length_le, X.2]
                  have hY32 : ((Y.1.map u8v).drop 0).take 32 = Y.1.map u8v := by simp [List.take_of_length_le, Y.2]
                  refine wpIn_block ?_
                  refine wpIn_seq ?_
                  refine ci_region (noOut_then (noOut_block noOut_up)) rfl ?_
                  refine su ?_
                  refine ldb (v := .bool right) hBz rfl rfl ?_
                  refine en ?_
                  refine x_then ?_
                  cases right with
                  | true =>
                    refine ci_condb rfl (fun _ => ?_) (fun h => by cases h)
                    refine wpIn_seq ?_
                    refine ci_drawl 6 [] (noOut_then (noOut_block noOut_up)) rfl (by kernel_rfl) (by kernel_rfl) (by kernel_rfl) (fun W8 hc8 hs8 => ?_)
                    refine ldbg (hW9.ch hc8 (by simp)) (by simp) rfl rfl ?_
                    (try refine wkg ?_)
                    (try ((with_reducible apply is_gg); first | refine gtg ?_ | refine gfg ?_ | refine gug ?_)); refine ixg ((hPW.mv (Ch.refl [] W0) (fun k _ h => by simp at h)).ch hc8) (fun b1 o1 x1 hx1 hA1 => ?_)
                    rw [Int.toNat_natCast, hgd] at hx1
                    obtain rfl := Option.some.inj hx1
                    (try ((with_reducible apply is_gg); first | refine gtg ?_ | refine gfg ?_ | refine gug ?_)); refine ldrg hA1 ?_
                    refine ldbrg (n := 32) (hWx.ch hc8 (by simp)) (by simp) rfl (ds := X.1.map u8v) hX32 (by simp [X.2]) ?_
                    (try ((with_reducible apply is_gg); first | refine gtg ?_ | refine gfg ?_ | refine gug ?_)); refine cag (fun W9 hc9 => node_any (q.getD j zeroH).1 X.1 (q.getD j zeroH).2 X.2 W9 ((hKW.ch hc8 (by simp)).ch hc9 (by simp))) ?_
                    refine lastg rfl (by kernel_rfl) (fun W9 hc9 => ?_)
                    refine stbw (n := 32) ((hWx.ch hc8 (by simp)).ch hc9 (by simp)) rfl rfl (hv_len (nodeOf_len _ _)) (by simp [X.2]) one_u8 (fun W10 hB10 hch10 hs10 => ?_)
                    refine x_last rfl rfl (fun Wm hc11 => ?_)
                    have hce1 : Ch [bx, by_] W0 Wm := (((Ch.some hc8).add hc9).into hch10 (.inr (by simp))).add hc11
                    have hcx1 : Ch [bx] W0 Wm := (((Ch.some hc8).add hc9).then hch10).add hc11
                    have hWx1 := hB10.ch hc11 (by simp)
                    have hWy1 := hWy.ch hcx1 (by simp; omega)
                    have hW91 := hW9.ch hce1 (by simp; omega)
                    have hPW1 := hPW.ch hce1
                    have hKW1 := hKW.ch hce1 (by have := hK.1; simp; omega)
                    refine x_then ?_
                    refine ci_drawl 6 [] (noOut_block noOut_up) rfl (by kernel_rfl) (by kernel_rfl) (by kernel_rfl) (fun W8 hc8 hs8 => ?_)
                    refine ldbg (hW91.ch hc8 (by simp)) (by simp) rfl rfl ?_
                    (try refine wkg ?_)
                    (try ((with_reducible apply is_gg); first | refine gtg ?_ | refine gfg ?_ | refine gug ?_)); refine ixg ((hPW1.mv (Ch.refl [] Wm) (fun k _ h => by simp at h)).ch hc8) (fun b1 o1 x1 hx1 hA1 => ?_)
                    rw [Int.toNat_natCast, hgd] at hx1
                    obtain rfl := Option.some.inj hx1
                    (try ((with_reducible apply is_gg); first | refine gtg ?_ | refine gfg ?_ | refine gug ?_)); refine ldrg hA1 ?_
                    refine ldbrg (n := 32) (hWy1.ch hc8 (by simp)) (by simp) rfl (ds := Y.1.map u8v) hY32 (by simp [Y.2]) ?_
                    (try ((with_reducible apply is_gg); first | refine gtg ?_ | refine gfg ?_ | refine gug ?_)); refine cag (fun W9 hc9 => node_any (q.getD j zeroH).1 Y.1 (q.getD j zeroH).2 Y.2 W9 ((hKW1.ch hc8 (by simp)).ch hc9 (by simp))) ?_
                    refine lastg rfl (by kernel_rfl) (fun W9 hc9 => ?_)
                    refine stbw (n := 32) ((hWy1.ch hc8 (by simp)).ch hc9 (by simp)) rfl rfl (hv_len (nodeOf_len _ _)) (by simp [Y.2]) one_u8 (fun W10 hB10 hch10 hs10 => ?_)
                    refine x_last rfl rfl (fun W11 hc11 => ?_)
                    have hce2 : Ch [bx, by_] Wm W11 := (((Ch.some hc8).add hc9).into hch10 (.inr (by simp))).add hc11
                    have hcx2 : Ch [by_] Wm W11 := (((Ch.some hc8).add hc9).then hch10).add hc11
                    have hce := hce1.then hce2
                    refine ⟨rfl, hce, hW9.ch hce (by simp; omega), hW5.ch hce (by simp; omega), hW6.ch hce (by simp; omega), ?_, ?_⟩
                    · rw [hfd2]
                      exact hWx1.ch hcx2 (by simp; omega)
                    · rw [hfd2]
                      exact hB10.ch hc11 (by simp)
                  | false =>
                    refine ci_condb rfl (fun h => by cases h) (fun _ => ?_)
                    refine ci_drawl 6 [] (noOut_block noOut_up) rfl (by kernel_rfl) (by kernel_rfl) (by kernel_rfl) (fun W8 hc8 hs8 => ?_)
                    refine ldbrg (n := 32) (hWy.ch hc8 (by simp)) (by simp) rfl (ds := Y.1.map u8v) hY32 (by simp [Y.2]) ?_
                    refine ldbg (hW9.ch hc8 (by simp)) (by simp) rfl rfl ?_
                    (try refine wkg ?_)
                    (try ((with_reducible apply is_gg); first | refine gtg ?_ | refine gfg ?_ | refine gug ?_)); refine ixg ((hPW.mv (Ch.refl [] W0) (fun k _ h => by simp at h)).ch hc8) (fun b1 o1 x1 hx1 hA1 => ?_)
                    rw [Int.toNat_natCast, hgd] at hx1
                    obtain rfl := Option.some.inj hx1
                    (try ((with_reducible apply is_gg); first | refine gtg ?_ | refine gfg ?_ | refine gug ?_)); refine ldrg hA1 ?_
                    (try ((with_reducible apply is_gg); first | refine gtg ?_ | refine gfg ?_ | refine gug ?_)); refine cag (fun W9 hc9 => node_any Y.1 (q.getD j zeroH).1 Y.2 (q.getD j zeroH).2 W9 ((hKW.ch hc8 (by simp)).ch hc9 (by simp))) ?_
                    refine lastg rfl (by kernel_rfl) (fun W9 hc9 => ?_)
                    refine stbw (n := 32) ((hWy.ch hc8 (by simp)).ch hc9 (by simp)) rfl rfl (hv_len (nodeOf_len _ _)) (by simp [Y.2]) one_u8 (fun W10 hB10 hch10 hs10 => ?_)
                    refine x_last rfl rfl (fun W11 hc11 => ?_)
                    have hce : Ch [bx, by_] W0 W11 := (((Ch.some hc8).add hc9).into hch10 (.inr (by simp))).add hc11
                    have hcx : Ch [by_] W0 W11 := (((Ch.some hc8).add hc9).then hch10).add hc11
                    refine ⟨rfl, hce, hW9.ch hce (by simp; omega), hW5.ch hce (by simp; omega), hW6.ch hce (by simp; omega), ?_, ?_⟩
                    · rw [hfd2]
                      exact hWx.ch hcx (by simp; omega)
                    · rw [hfd2]
                      exact hB10.ch hc11 (by simp)
                · rintro D W0 hD hcW ⟨hW9, hW5, hW6, hWx, hWy⟩ hKD
                  generalize hfd : (upl xs).foldl (stepK q) (s, s) = hcur at hWx hWy
                  have hfk : foldK q s xs = hcur := hfd
                  rw [hfk]
                  obtain ⟨X, Y⟩ := hcur
                  refine x_block ?_
                  refine x_then ?_
                  refine wp_seq ?_
                  refine wp_region_lit ?_
                  refine list_defers _ (fr _) _ (by kernel_rfl) (noOut_then noOut_M) ?_
                  refine ldbr (n := 32) hWx rfl (ds := X.1.map u8v) (by simp [List.take_of_length_le, X.2]) (by simp [X.2]) ?_
                  refine ldbr (n := 32) hW5 rfl (ds := a.1.map u8v) (by simp [List.take_of_length_le, a.2]) (by simp [a.2]) ?_
                  refine wl_val (r_eql8 (n := 32) (a := X.1) (b := a.1) Tryd.eqGuardType30 rfl rfl X.2 a.2) ?_
                  rw [hs_eq]
                  have hDlt := (Array.getElem?_eq_some_iff.1 hKD).1
                  have hcf : Ch [] w W0 := (hc11.trans hcW (fun x _ h => h) (fun x hx hm => by simp at hm; omega))
                  by_cases hx : X = a
                  · rw [decide_eq_true hx]
                    refine st ?_
                    (try ((with_reducible apply is_gd); refine gt ?_))
                    refine ldbr (n := 32) hWy rfl (ds := Y.1.map u8v) (by simp [List.take_of_length_le, Y.2]) (by simp [Y.2]) ?_
                    (try ((with_reducible apply is_gd); refine gt ?_))
                    refine ldbr (n := 32) hW6 rfl (ds := b.1.map u8v) (by simp [List.take_of_length_le, b.2]) (by simp [b.2]) ?_
                    (try ((with_reducible apply is_gd); refine gt ?_))
                    refine wl_val (r_eql8 (n := 32) (a := Y.1) (b := b.1) Tryd.eqGuardType30 rfl rfl Y.2 b.2) ?_
                    rw [hs_eq]
                    refine st ?_
                    refine st ?_
                    refine en ?_
                    show Exit.then _ _ .normal (frd _ _) _
                    refine x_then ?_
                    refine wp_ret ?_
                    refine post1 hKD ?_
                    exact out1 rfl ⟨by rw [Bool.true_and]; rfl, hcf.own (Ch.put W0 D _) (by omega)⟩
                  · rw [decide_eq_false hx]
                    refine st ?_
                    refine gf ?_
                    refine gf ?_
                    refine gf ?_
                    refine st ?_
                    refine st ?_
                    refine en ?_
                    show Exit.then _ _ .normal (frd _ _) _
                    refine x_then ?_
                    refine wp_ret ?_
                    refine post1 hKD ?_
                    exact out1 rfl ⟨rfl, hcf.own (Ch.put W0 D _) (by omega)⟩
end Go.Proofs.YtkdbinchlpdkmaaDoor

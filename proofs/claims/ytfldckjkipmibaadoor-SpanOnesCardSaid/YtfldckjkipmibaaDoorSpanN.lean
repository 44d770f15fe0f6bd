/- Plain laws of the parts beside a range. -/
import Derived.Test.YtfldckjkipmibaaDoorSides
import Derived.Test.YtfldckjkipmibaaDoorClimb
set_option linter.unusedVariables false
set_option linter.unusedSimpArgs false
namespace Go.Proofs.YtfldckjkipmibaaDoor
open Go Go.RowKit Go.Proofs.E
theorem root_split' {l : List Hs} (h2 : 2 ≤ l.length) (hb : l.length ≤ 1000000000) : rootH l = nodeH (rootH (l.take (splitN l.length))) (rootH (l.drop (splitN l.length))) := rootG_two (nd := nodeH) (em := emptyH) (l := l) h2 (by omega)
def cntN (a b lo hi : Nat) : Nat := (sidesN a b lo hi).length
/-- The hash that leaves and sides give the part [lo, hi). -/
def valF (a b : Nat) (lv : List Hs) : Nat → Nat → Nat → List Hs → Hs
  | 0, _, _, _ => zeroH
  | f + 1, lo, hi, s => if hi ≤ a ∨ b ≤ lo then s.headD zeroH else if a ≤ lo ∧ hi ≤ b then rootH ((lv.take (hi - a)).drop (lo - a)) else
      nodeH (valF a b lv f lo (lo + splitN (hi - lo)) s) (valF a b lv f (lo + splitN (hi - lo)) hi (s.drop (cntN a b lo (lo + splitN (hi - lo)))))
def valN (a b : Nat) (lv : List Hs) (lo hi : Nat) (s : List Hs) : Hs := valF a b lv (hi - lo) lo hi s
theorem valF_any (a b : Nat) (lv : List Hs) : ∀ (f g lo hi : Nat) (s : List Hs), lo < hi → hi - lo ≤ f → hi - lo ≤ g → hi ≤ 9223372036854775807 → valF a b lv f lo hi s = valF a b lv g lo hi s
  | 0, _, lo, hi, _, h, hf, _, _ => by omega
  | _ + 1, 0, lo, hi, _, h, _, hg, _ => by omega
  | f + 1, g + 1, lo, hi, s, h, hf, hg, hb => by
    rw [valF, valF]
    split
    · rfl
    · split
      · rfl
      · rename_i h1 h2
        have := splitN_lt (n := hi - lo) (by omega) (by omega)
        rw [valF_any a b lv f g lo _ s (by omega) (by omega) (by omega) (by omega), valF_any a b lv f g _ hi _ (by omega) (by omega) (by omega) (by omega)]
theorem val_out {a b lo hi : Nat} {lv s : List Hs} (h : lo < hi) (ho : hi ≤ a ∨ b ≤ lo) : valN a b lv lo hi s = s.headD zeroH := by
  unfold valN
  obtain ⟨f, hf⟩ : ∃ f, hi - lo = f + 1 := ⟨hi - lo - 1, by omega⟩
  rw [hf, valF, if_pos ho]
theorem val_in {a b lo hi : Nat} {lv s : List Hs} (h : lo < hi) (ho : ¬ (hi ≤ a ∨ b ≤ lo)) (hl : a ≤ lo ∧ hi ≤ b) : valN a b lv lo hi s = rootH ((lv.take (hi - a)).drop (lo - a)) := by
  unfold valN
  obtain ⟨f, hf⟩ : ∃ f, hi - lo = f + 1 := ⟨hi - lo - 1, by omega⟩
  rw [hf, valF, if_neg ho, if_pos hl]
theorem val_two {a b lo hi : Nat} {lv s : List Hs} (h : lo < hi) (hb : hi ≤ 9223372036854775807) (ho : ¬ (hi ≤ a ∨ b ≤ lo)) (hl : ¬ (a ≤ lo ∧ hi ≤ b)) :
    valN a b lv lo hi s = nodeH (valN a b lv lo (lo + splitN (hi - lo)) s) (valN a b lv (lo + splitN (hi - lo)) hi (s.drop (cntN a b lo (lo + splitN (hi - lo))))) := by
  have := splitN_lt (n := hi - lo) (by omega) (by omega)
  unfold valN
  obtain ⟨f, hf⟩ : ∃ f, hi - lo = f + 1 := ⟨hi - lo - 1, by omega⟩
  conv => lhs; rw [hf, valF]
  rw [if_neg ho, if_neg hl, valF_any a b lv f _ lo _ s (by omega) (by omega) (Nat.le_refl _) (by omega), valF_any a b lv f _ _ hi _ (by omega) (by omega) (Nat.le_refl _) (by omega)]
theorem cnt_two {a b lo hi : Nat} (h : lo < hi) (hb : hi ≤ 9223372036854775807) (ho : ¬ (hi ≤ a ∨ b ≤ lo)) (hl : ¬ (a ≤ lo ∧ hi ≤ b)) : cntN a b lo hi = cntN a b lo (lo + splitN (hi - lo)) + cntN a b (lo + splitN (hi - lo)) hi := by
  unfold cntN
  rw [sides_two h hb ho (by omega), List.length_append]
theorem sides_in' (a b : Nat) : ∀ (N lo hi : Nat), hi - lo = N → lo < hi → hi ≤ 9223372036854775807 → ∀ p ∈ sidesN a b lo hi, lo ≤ p.1 ∧ p.1 < p.2 ∧ p.2 ≤ hi := by
  intro N
  induction N using Nat.strongRecOn with
  | _ N ih =>
    intro lo hi hN h hb p hp
    by_cases ho : hi ≤ a ∨ b ≤ lo
    · rw [sides_out h ho] at hp
      simp at hp
      subst hp
      exact ⟨Nat.le_refl _, h, Nat.le_refl _⟩
    · by_cases hi' : hi - lo = 1 ∨ (a ≤ lo ∧ hi ≤ b)
      · rw [sides_in h ho hi'] at hp
        simp at hp
      · have hsp := splitN_lt (n := hi - lo) (by omega) (by omega)
        rw [sides_two h hb ho hi', List.mem_append] at hp
        rcases hp with hp | hp
        · have := ih _ (by omega) lo _ rfl (by omega) (by omega) p hp
          omega
        · have := ih _ (by omega) _ hi rfl (by omega) hb p hp
          omega
theorem sidesZ_mem {n a b : Int} {p : Nat × Nat} (hp : p ∈ sidesZ n a b) : p.1 < p.2 ∧ (p.2 : Int) ≤ n := by
  unfold sidesZ at hp
  split at hp
  · rename_i hm
    unfold mayZ at hm
    simp only [Bool.and_eq_true, decide_eq_true_eq] at hm
    have := sides_in' a.toNat b.toNat _ 0 n.toNat rfl (by omega) (by omega) p hp
    omega
  · simp at hp
/-- The root of a part of leaves. -/
def partH (l : List Hs) (lo hi : Nat) : Hs := rootH ((l.take hi).drop lo)
theorem part_two {l : List Hs} {lo hi m : Nat} (hm : lo + splitN (hi - lo) = m) (h : lo + 2 ≤ hi) (hl : hi ≤ l.length) (hb : l.length ≤ 1000000000) : partH l lo hi = nodeH (partH l lo m) (partH l m hi) := by
  have hsp := splitN_lt (n := hi - lo) (by omega) (by omega)
  have hlen : ((l.take hi).drop lo).length = hi - lo := by rw [List.length_drop, List.length_take]; omega
  unfold partH
  rw [root_split' (by omega) (by omega), hlen]
  congr 2
  · rw [List.take_drop, hm, List.take_take, Nat.min_eq_left (by omega)]
  · rw [List.drop_drop, hm]
theorem val_leaf {a b lo hi : Nat} {lv s : List Hs} {x : Hs} (h : hi = lo + 1) (ho : ¬ (hi ≤ a ∨ b ≤ lo)) (hx : lv[lo - a]? = some x) : valN a b lv lo hi s = x := by
  have hl := (List.getElem?_eq_some_iff.1 hx).1
  rw [val_in (by omega) ho ⟨by omega, by omega⟩]
  have e : (lv.take (hi - a)).drop (lo - a) = [x] := by
    rw [show hi - a = (lo - a) + 1 by omega, List.take_add_one, hx, List.drop_append_of_le_length (by rw [List.length_take]; omega), List.drop_of_length_le (by rw [List.length_take]; omega)]
    rfl
  rw [e]
  rfl
theorem cnt_in {a b lo hi : Nat} (h : lo < hi) (ho : ¬ (hi ≤ a ∨ b ≤ lo)) (hl : hi - lo = 1 ∨ (a ≤ lo ∧ hi ≤ b)) : cntN a b lo hi = 0 := by unfold cntN; rw [sides_in h ho hl]; rfl
/-- Whatever is not beside the range is what its two sides give. -/
theorem val_split {a b lo hi : Nat} {lv s : List Hs} (h : lo + 2 ≤ hi) (hb : hi ≤ 1000000000000000) (ho : ¬ (hi ≤ a ∨ b ≤ lo)) (hlv : b ≤ a + lv.length) (hl9 : lv.length ≤ 1000000000) :
    valN a b lv lo hi s = nodeH (valN a b lv lo (lo + splitN (hi - lo)) s) (valN a b lv (lo + splitN (hi - lo)) hi (s.drop (cntN a b lo (lo + splitN (hi - lo))))) ∧ cntN a b lo hi = cntN a b lo (lo + splitN (hi - lo)) + cntN a b (lo + splitN (hi - lo)) hi := by
  have hsp := splitN_lt (n := hi - lo) (by omega) (by omega)
  by_cases hin : a ≤ lo ∧ hi ≤ b
  · obtain ⟨m, hm⟩ : ∃ m, lo + splitN (hi - lo) = m := ⟨_, rfl⟩
    rw [hm, val_in (by omega) ho hin, val_in (lo := lo) (hi := m) (by omega) (by omega) ⟨hin.1, by omega⟩, val_in (lo := m) (hi := hi) (by omega) (by omega) ⟨by omega, hin.2⟩,
      cnt_in (by omega) ho (.inr hin), cnt_in (lo := lo) (hi := m) (by omega) (by omega) (.inr ⟨hin.1, by omega⟩), cnt_in (lo := m) (hi := hi) (by omega) (by omega) (.inr ⟨by omega, hin.2⟩)]
    refine ⟨?_, rfl⟩
    have hp := part_two (l := lv) (lo := lo - a) (hi := hi - a) (m := m - a) (by rw [show hi - a - (lo - a) = hi - lo by omega]; omega) (by omega) (by omega) hl9
    exact hp
  · exact ⟨val_two (by omega) (by omega) ho hin, cnt_two (by omega) (by omega) ho hin⟩
/-- What leaves of a tree and the roots beside them give is the root of all. -/
theorem val_holds (l : List Hs) (hb : l.length ≤ 1000000000) {a b : Nat} (hab : a < b) (hbl : b ≤ l.length) : ∀ (N lo hi : Nat) (rest : List Hs), hi - lo = N → lo < hi → hi ≤ l.length →
    valN a b ((l.take b).drop a) lo hi ((sidesN a b lo hi).map (fun p => partH l p.1 p.2) ++ rest) = partH l lo hi := by
  intro N
  induction N using Nat.strongRecOn with
  | _ N ih =>
    intro lo hi rest hN h hl
    by_cases ho : hi ≤ a ∨ b ≤ lo
    · rw [val_out h ho, sides_out h ho]
      rfl
    · by_cases hi' : a ≤ lo ∧ hi ≤ b
      · rw [val_in h ho hi']
        unfold partH
        congr 1
        rw [List.take_drop, List.drop_drop, List.take_take, show a + (hi - a) = hi by omega, Nat.min_eq_left hi'.2, show a + (lo - a) = lo by omega]
      · have hsp := splitN_lt (n := hi - lo) (by omega) (by omega)
        rw [val_two h (by omega) ho hi', sides_two h (by omega) ho (by omega)]
        obtain ⟨m, hm⟩ : ∃ m, lo + splitN (hi - lo) = m := ⟨_, rfl⟩
        rw [part_two hm (by omega) hl hb, hm, List.map_append, List.append_assoc, ih (m - lo) (by omega) lo m _ rfl (by omega) (by omega)]
        have hd : ((sidesN a b lo m).map (fun p => partH l p.1 p.2) ++ ((sidesN a b m hi).map (fun p => partH l p.1 p.2) ++ rest)).drop (cntN a b lo m) = (sidesN a b m hi).map (fun p => partH l p.1 p.2) ++ rest := by
          unfold cntN
          exact List.drop_left' (by simp)
        rw [hd, ih (hi - m) (by omega) m hi rest rfl (by omega) hl]
/-- Beside one leaf there stand the hashes of its path. -/
theorem sides_down (l : List Hs) (hb : l.length ≤ 1000000000) (k : Nat) : ∀ (N lo hi : Nat), hi - lo = N → lo ≤ k → k < hi → hi ≤ l.length →
    ((sidesN k (k + 1) lo hi).map (fun p => partH l p.1 p.2)).Perm (downH ((l.take hi).drop lo) (k - lo)) := by
  intro N
  induction N using Nat.strongRecOn with
  | _ N ih =>
    intro lo hi hN h1 h2 hl
    have hlen : ((l.take hi).drop lo).length = hi - lo := by rw [List.length_drop, List.length_take]; omega
    have ho : ¬ (hi ≤ k ∨ k + 1 ≤ lo) := by omega
    by_cases h3 : hi - lo = 1
    · rw [sides_in (by omega) ho (.inl h3), down_one (by omega)]
      exact .nil
    · have hsp := splitN_lt (n := hi - lo) (by omega) (by omega)
      rw [sides_two (by omega) (by omega) ho (by omega), List.map_append]
      obtain ⟨m, hm⟩ : ∃ m, lo + splitN (hi - lo) = m := ⟨_, rfl⟩
      have ht : ((l.take hi).drop lo).take (splitN (hi - lo)) = (l.take m).drop lo := by rw [List.take_drop, hm, List.take_take, Nat.min_eq_left (by omega)]
      have hd : ((l.take hi).drop lo).drop (splitN (hi - lo)) = (l.take hi).drop m := by rw [List.drop_drop, hm]
      rw [hm]
      by_cases hk : k < m
      · rw [sides_out (a := k) (b := k + 1) (lo := m) (hi := hi) (by omega) (.inr (by omega)), down_left (by omega) (by omega) (by rw [hlen]; omega), hlen, ht, hd]
        exact (List.perm_append_comm).trans (List.Perm.cons _ (ih (m - lo) (by omega) lo m rfl h1 hk (by omega)))
      · rw [sides_out (a := k) (b := k + 1) (lo := lo) (hi := m) (by omega) (.inl (by omega)), down_right (by omega) (by omega) (by rw [hlen]; omega), hlen, ht, hd, show k - lo - splitN (hi - lo) = k - m by omega]
        exact List.Perm.cons _ (ih (hi - m) (by omega) m hi rfl (by omega) h2 hl)
/-- Where a walk along the parts stands, that steps over the range. -/
def posN (a b x : Nat) : Nat := if x ≤ a then x else if x ≤ b then a else x
def okPart (a b : Nat) (at_ : Nat) (p : Nat × Nat) : Prop := p.1 = (if at_ = a then b else at_) ∧ p.1 < p.2 ∧ ¬ (a < p.2 ∧ p.1 < b)
def okParts (a b : Nat) : Nat → List (Nat × Nat) → Nat → Prop
  | at_, [], z => at_ = z
  | at_, p :: ps, z => okPart a b at_ p ∧ okParts a b p.2 ps z
theorem okParts_append {a b : Nat} {y z : Nat} : ∀ (ps qs : List (Nat × Nat)) (x : Nat), okParts a b x ps y → okParts a b y qs z → okParts a b x (ps ++ qs) z
  | [], qs, x, h, k => by cases (h : x = y); exact k
  | p :: ps, qs, x, h, k => ⟨h.1, okParts_append ps qs p.2 h.2 k⟩
theorem parts_ok {a b : Nat} (hab : a < b) : ∀ (N lo hi : Nat), hi - lo = N → lo < hi → hi ≤ 9223372036854775807 → okParts a b (posN a b lo) (sidesN a b lo hi) (posN a b hi) := by
  intro N
  induction N using Nat.strongRecOn with
  | _ N ih =>
    intro lo hi hN h hb
    by_cases ho : hi ≤ a ∨ b ≤ lo
    · rw [sides_out h ho]
      refine ⟨⟨?_, h, by omega⟩, ?_⟩
      · show lo = if posN a b lo = a then b else posN a b lo
        rcases ho with ho | ho
        · have e : posN a b lo = lo := by unfold posN; rw [if_pos (by omega)]
          rw [e, if_neg (by omega)]
        · by_cases hl : lo = b
          · have e : posN a b lo = a := by unfold posN; rw [if_neg (by omega), if_pos (by omega)]
            rw [e, if_pos rfl, hl]
          · have e : posN a b lo = lo := by unfold posN; rw [if_neg (by omega), if_neg (by omega)]
            rw [e, if_neg (by omega)]
      · show hi = posN a b hi
        unfold posN
        rcases ho with ho | ho
        · rw [if_pos ho]
        · rw [if_neg (by omega), if_neg (by omega)]
    · by_cases hi' : hi - lo = 1 ∨ (a ≤ lo ∧ hi ≤ b)
      · rw [sides_in h ho hi']
        show posN a b lo = posN a b hi
        unfold posN
        split <;> split <;> (try split) <;> (try split) <;> omega
      · have hsp := splitN_lt (n := hi - lo) (by omega) (by omega)
        rw [sides_two h (by omega) ho hi']
        exact okParts_append _ _ _ (ih _ (by omega) lo _ rfl (by omega) (by omega)) (ih _ (by omega) _ hi rfl (by omega) hb)
end Go.Proofs.YtfldckjkipmibaaDoor

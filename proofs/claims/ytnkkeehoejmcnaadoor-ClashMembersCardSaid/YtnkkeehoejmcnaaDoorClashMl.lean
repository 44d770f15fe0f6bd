/- Plain law of law 20's members: two proofs of one key under one root say the same, or two inputs of one hash are told. -/
import Derived.Test.YtnkkeehoejmcnaaDoorWk
set_option linter.unusedVariables false
set_option linter.unusedSimpArgs false
namespace Go.Proofs.YtnkkeehoejmcnaaDoor
open Go Go.RowKit Go.Proofs.E
attribute [local irreducible] Go.wpList Go.Code.wp Go.Proofs.E.exec Go.Proofs.E.wpLexG
inductive Chn (k pk pv : Hs) : List (List UInt8) → Prop
  | one : Chn k pk pv [3 :: (pk.1 ++ pv.1)]
  | more {e : List UInt8} {l : List (List UInt8)} (s : Int × Hs) : 0 ≤ s.1 → s.1 ≤ 255 → Chn k pk pv (e :: l) → Chn k pk pv (forkX k s (shaH e) :: e :: l)
theorem getLastD_rev {α : Type} {l : List α} {x d : α} {r : List α} (h : l.reverse = x :: r) : l.getLastD d = x := by
  have : l = r.reverse ++ [x] := by
    have := congrArg List.reverse h
    simpa using this
  rw [this]
  simp
theorem Chn.ne {k pk pv : Hs} {l : List (List UInt8)} (h : Chn k pk pv l) : ∃ x r, l = x :: r := by cases h <;> exact ⟨_, _, rfl⟩
theorem downL_chn {k pk pv : Hs} : ∀ (r : List (Int × Hs)) (l : List (List UInt8)), (∀ s ∈ r, 0 ≤ s.1 ∧ s.1 ≤ 255) → Chn k pk pv l.reverse → Chn k pk pv (downL k r l).reverse
  | [], l, _, h => h
  | s :: r, l, hb, h => by
    obtain ⟨e, t, he⟩ := h.ne
    rw [downL, getLastD_rev he]
    refine downL_chn r _ (fun x hx => hb x (by simp [hx])) ?_
    rw [List.reverse_append, he]
    rw [he] at h
    exact .more s (hb s (by simp)).1 (hb s (by simp)).2 h
theorem climbUp_top {k pk : Hs} : ∀ (r : List (Int × Hs)) (l : List (List UInt8)) {h h' : Hs}, h = shaH (l.getLastD []) → climbUp k pk r h = some h' → h' = shaH ((downL k r l).getLastD [])
  | [], l, h, h', e, hc => by
    rw [climbUp] at hc
    cases hc
    exact e
  | s :: r, l, h, h', e, hc => by
    rw [climbUp] at hc
    split at hc
    · rw [downL]
      refine climbUp_top r _ ?_ hc
      rw [stepUp_sha, e]
      simp
    · cases hc
theorem u8_bits {a b : Int} (ha : 0 ≤ a) (ha' : a ≤ 255) (hb : 0 ≤ b) (hb' : b ≤ 255) (h : UInt8.ofNat a.toNat = UInt8.ofNat b.toNat) : a = b := by
  have := congrArg UInt8.toNat h
  rw [UInt8.toNat_ofNat', UInt8.toNat_ofNat', Nat.mod_eq_of_lt (by omega), Nat.mod_eq_of_lt (by omega)] at this
  omega
theorem hs_app {a b c d : Hs} (h : a.1 ++ b.1 = c.1 ++ d.1) : a = c ∧ b = d := by
  obtain ⟨h1, h2⟩ := List.append_inj h (by simp)
  exact ⟨Subtype.ext h1, Subtype.ext h2⟩
theorem shaH_inj {a b : List UInt8} (h : shaH a = shaH b) : shaOf a = shaOf b := congrArg Subtype.val h
theorem firstL_cons_none {x y : List UInt8} {l : List (List UInt8 × List UInt8)} (h : firstL ((x, y) :: l) = none) (hs : shaOf x = shaOf y) : x = y ∧ firstL l = none := by
  rw [firstL] at h
  split at h
  · rename_i he
    exact ⟨he, h⟩
  · cases h
theorem chn_same {k pk pv pk' pv' : Hs} {X : List (List UInt8)} (hX : Chn k pk pv X) : ∀ {Y : List (List UInt8)}, Chn k pk' pv' Y → shaOf (X.headD []) = shaOf (Y.headD []) → firstL (X.zip Y) = none → pk = pk' ∧ pv = pv' := by
  induction hX with
  | one =>
    intro Y hY hs hf
    cases hY with
    | one =>
      obtain ⟨h, _⟩ := firstL_cons_none hf hs
      injection h with _ h
      exact hs_app h
    | more s h0 h1 hc =>
      obtain ⟨h, _⟩ := firstL_cons_none hf hs
      unfold forkX at h
      injection h with h _
      cases h
  | more s h0 h1 hc ih =>
    intro Y hY hs hf
    cases hY with
    | one =>
      obtain ⟨h, _⟩ := firstL_cons_none hf hs
      unfold forkX at h
      injection h with h _
      cases h
    | more s' h0' h1' hc' =>
      obtain ⟨h, hf'⟩ := firstL_cons_none hf hs
      refine ih hc' ?_ hf'
      unfold forkX at h
      injection h with _ h
      injection h with hb h
      have hbit := u8_bits h0 h1 h0' h1' hb
      rw [hbit] at h
      split at h
      · exact shaH_inj (hs_app h).1
      · exact shaH_inj (hs_app h).2
def valP (k : Hs) (f : Bool) (pk pv : Hs) : Hs × Bool := if f = true ∧ pk.1 = k.1 then (pv, true) else (zeroH, false)
theorem headD_rev {α : Type} {l : List α} {d : α} (h : l ≠ []) : l.reverse.headD d = l.getLastD d := by
  obtain ⟨x, r, hx⟩ : ∃ x r, l.reverse = x :: r := by
    cases hl : l.reverse with
    | nil => exact absurd (List.reverse_eq_nil_iff.1 hl) h
    | cons x r => exact ⟨x, r, rfl⟩
  rw [getLastD_rev hx, hx]
  rfl
theorem downs_chn {k : Hs} {st : List (Int × Hs)} {pk pv r : Hs} (h : climbP k st true pk pv = some r) : Chn k pk pv (downsP k st true pk pv).reverse ∧ shaOf ((downsP k st true pk pv).reverse.headD []) = r.1 := by
  have hg := goodSt_mem (climbP_good (by rw [h]; rfl)) (by omega)
  have hc : Chn k pk pv (downL k st.reverse [3 :: (pk.1 ++ pv.1)]).reverse := downL_chn _ _ (fun s hs => hg s (by simpa using hs)) .one
  have he : downsP k st true pk pv = downL k st.reverse [3 :: (pk.1 ++ pv.1)] := by
    unfold downsP
    rw [h, if_pos Option.isSome_some, if_pos rfl]
  have ht : r = shaH ((downL k st.reverse [3 :: (pk.1 ++ pv.1)]).getLastD []) := by
    unfold climbP at h
    split at h
    · rw [if_pos rfl] at h
      exact climbUp_top _ _ rfl h
    · cases h
  rw [he]
  refine ⟨hc, ?_⟩
  rw [headD_rev (fun h0 => by rw [h0] at hc; cases hc), ht]
  rfl
theorem members_law {k : Hs} {s1 s2 : List (Int × Hs)} {f1 f2 : Bool} {k1 v1 k2 v2 r : Hs} (h1 : climbP k s1 f1 k1 v1 = some r) (h2 : climbP k s2 f2 k2 v2 = some r) (hn : membersZ k s1 f1 k1 v1 s2 f2 k2 v2 = none) : valP k f1 k1 v1 = valP k f2 k2 v2 := by
  have d5 : ∀ {s : List (Int × Hs)} {a b : Hs}, climbP k s false a b = some r → downsP k s false a b = [[5]] ∧ shaOf [5] = r.1 := by
    intro s a b h
    refine ⟨by unfold downsP; rw [h, if_pos Option.isSome_some]; rfl, ?_⟩
    unfold climbP at h
    split at h
    · rw [if_neg (by simp)] at h
      exact congrArg Subtype.val (Option.some.inj h)
    · cases h
  have head5 : ∀ {a b : Hs} {l : List (List UInt8)}, Chn k a b l → l.headD [] ≠ [5] := by
    intro a b l h
    cases h with
    | one => exact fun h => by injection h with h _; cases h
    | more s _ _ _ => exact fun h => by unfold forkX at h; injection h with h _; cases h
  unfold membersZ at hn
  rw [if_pos ⟨by rw [h1]; rfl, by rw [h2]; rfl⟩] at hn
  unfold pairsL at hn
  cases f1 with
  | false =>
    cases f2 with
    | false => unfold valP; rw [if_neg (by simp), if_neg (by simp)]
    | true =>
      exfalso
      obtain ⟨e1, e2⟩ := d5 h1
      obtain ⟨c1, c2⟩ := downs_chn h2
      obtain ⟨x, t, hx⟩ := c1.ne
      have h5 := head5 c1
      rw [e1, hx] at hn
      rw [hx] at c2 h5
      have := firstL_cons_none (x := [5]) (y := x) hn (e2.trans c2.symm)
      exact h5 this.1.symm
  | true =>
    cases f2 with
    | false =>
      exfalso
      obtain ⟨e1, e2⟩ := d5 h2
      obtain ⟨c1, c2⟩ := downs_chn h1
      obtain ⟨x, t, hx⟩ := c1.ne
      have h5 := head5 c1
      rw [e1, hx] at hn
      rw [hx] at c2 h5
      have := firstL_cons_none (x := x) (y := [5]) hn (c2.trans e2.symm)
      exact h5 this.1
    | true =>
      obtain ⟨c1, c2⟩ := downs_chn h1
      obtain ⟨c3, c4⟩ := downs_chn h2
      obtain ⟨rfl, rfl⟩ := chn_same c1 c3 (c2.trans c4.symm) hn
      rfl
theorem members_mem {k : Hs} {s1 s2 : List (Int × Hs)} {f1 f2 : Bool} {k1 v1 k2 v2 : Hs} {x y : List UInt8} (h : membersZ k s1 f1 k1 v1 s2 f2 k2 v2 = some (x, y)) : x.length ≤ 66 ∧ y.length ≤ 66 ∧ x ≠ y ∧ shaOf x = shaOf y := by
  unfold membersZ at h
  split at h
  · have hm : ∀ {l : List (List UInt8 × List UInt8)} {q : List UInt8 × List UInt8}, firstL l = some q → q ∈ l ∧ q.1 ≠ q.2 ∧ shaOf q.1 = shaOf q.2 := by
      intro l
      induction l with
      | nil => intro q h; cases h
      | cons r l ih =>
        intro q h
        rw [firstL] at h
        split at h
        · exact ⟨List.mem_cons_of_mem _ (ih h).1, (ih h).2⟩
        · split at h
          · cases h
            exact ⟨List.mem_cons_self, by assumption, by assumption⟩
          · cases h
    obtain ⟨h1, h2, h3⟩ := hm h
    have := List.of_mem_zip h1
    rw [List.mem_reverse, List.mem_reverse] at this
    exact ⟨downsP_mem _ _ _ _ _ x this.1, downsP_mem _ _ _ _ _ y this.2, h2, h3⟩
  · cases h
end Go.Proofs.YtnkkeehoejmcnaaDoor

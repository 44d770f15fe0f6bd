/- The plain law of reading records, whole: what comes back from bytes. -/
import Derived.Test.YtnkkeehoejmcnaaPar
set_option linter.unusedVariables false
set_option linter.unusedSimpArgs false
namespace Go.Proofs.Ytnkkeehoejmcnaa
open Go Go.RowKit Go.Proofs.E
def undat (d : Dat) : RR × List Pr := ((d.1, d.2.1, d.2.2.1, (none, 0, 0)), d.2.2.2)
theorem dat_undat (d : Dat) : dat (undat d) = d := rfl
theorem map_undat (ds : List Dat) : (ds.map undat).map dat = ds := by
  rw [List.map_map]
  exact List.map_id ds
theorem goodRB_dat {u v : RR × List Pr} (h : dat u = dat v) : goodRB u.1 u.2 = goodRB v.1 v.2 := by
  obtain ⟨h1, h2, h3, h4⟩ := dat_iff.1 h
  have h5 : inB u.1 = inB v.1 := by
    funext p
    unfold inB
    rw [h1, h2, h3]
  unfold goodRB
  rw [h1, h2, h3, h4, h5]
theorem readsGo_dat : ∀ (ks : List Bs) {us vs : List (RR × List Pr)}, us.map dat = vs.map dat → readsGo ks us = readsGo ks vs
  | _, [], [], _ => rfl
  | _, [], _ :: _, h => by simp at h
  | _, _ :: _, [], h => by simp at h
  | ks, u :: us, v :: vs, h => by
    simp only [List.map_cons, List.cons.injEq] at h
    rw [readsGo_cons, readsGo_cons, goodRB_dat h.1, (dat_iff.1 h.1).1, (dat_iff.1 h.1).2.1, readsGo_dat _ h.2]
theorem rightB_dat {ses snap : Int} {us vs : List (RR × List Pr)} {wz : List Pr} (h : us.map dat = vs.map dat) : rightB ses snap us wz = rightB ses snap vs wz := by
  have hl : us.length = vs.length := by simpa using congrArg List.length h
  unfold rightB
  rw [hl, readsGo_dat [] h]
theorem recGood_dat {ses snap : Int} {strict : Bool} {us vs : List (RR × List Pr)} {wz : List Pr} (h : us.map dat = vs.map dat) : recGood ses snap strict us wz = recGood ses snap strict vs wz := by
  unfold recGood
  rw [rightB_dat h, recB_dat h]
def goodV (x : RecV) : Bool := recGood x.1 x.2.1 x.2.2.1 (x.2.2.2.1.map undat) x.2.2.2.2
theorem recGood_V {ses snap : Nat} {strict : Bool} {us : List (RR × List Pr)} {wz : List Pr} : recGood (ses : Int) (snap : Int) strict us wz = goodV (ses, snap, strict, us.map dat, wz) :=
  recGood_dat (map_undat _).symm
theorem recD_undat (x : RecV) : recD x = recB x.1 x.2.1 x.2.2.1 (x.2.2.2.1.map undat) x.2.2.2.2 := by
  rw [← recD_dat, map_undat]
def readZ (bs : Bs) : Option RecV :=
  if 8192 < bs.length then none else if (recS (bs, false)).2.2 = true ∨ (recS (bs, false)).2.1 ≠ [] ∨ goodV (recS (bs, false)).1 = false then none else some (recS (bs, false)).1
theorem goodV_parts {x : RecV} (h : goodV x = true) : rightB x.1 x.2.1 (x.2.2.2.1.map undat) x.2.2.2.2 = true ∧ (recD x).length ≤ 8192 := by
  unfold goodV recGood at h
  rw [Bool.and_eq_true, decide_eq_true_eq, Int.toNat_natCast, Int.toNat_natCast, ← recD_undat] at h
  exact h
theorem goodRB_P {u : RR × List Pr} (h : goodRB u.1 u.2 = true) : ReadP (dat u) := by
  obtain ⟨h1, h2, h3, h4, h5, h6⟩ := goodR_parts h
  refine ⟨h1, h2, fun hs => ?_, h3, fun p hp => ?_⟩
  · have hs : u.1.1 = false := hs
    rcases h5 with h5 | h5
    · rw [h5] at hs
      cases hs
    · exact h5.2.1
  · have h7 := goodL_all _ _ h4 p hp
    unfold goodPB at h7
    simp only [Bool.and_eq_true, decide_eq_true_eq] at h7
    exact ⟨h7.2.1, h7.2.2.1, good_alive h p hp⟩
theorem goodPB_P {p : Pr} (h : goodPB p = true) : WriteP p := by
  unfold goodPB at h
  simp only [Bool.and_eq_true, decide_eq_true_eq, Bool.or_eq_true] at h
  refine ⟨h.2.1, h.2.2.1, fun hd => ?_⟩
  rcases h.2.2.2 with h1 | h1
  · rw [hd] at h1
    cases h1
  · exact h1
theorem right_P {x : RecV} (h : rightB x.1 x.2.1 (x.2.2.2.1.map undat) x.2.2.2.2 = true) : RecP x := by
  obtain ⟨⟨h1, h2, h3, h4, h5, h6, h7⟩, h8⟩ := right_parts h
  rw [List.length_map] at h5
  refine ⟨by omega, by omega, h5, fun d hd => ?_, h6, fun p hp => goodPB_P (goodL_all _ _ h7 p hp)⟩
  exact goodRB_P (u := undat d) (readsGo_all _ _ h8 (undat d) (List.mem_map_of_mem hd))
theorem readZ_sound {bs : Bs} {x : RecV} (h : readZ bs = some x) : bs = recD x ∧ goodV x = true := by
  unfold readZ at h
  split at h
  · cases h
  split at h
  · cases h
  rename_i h1 h2
  have e1 : (recS (bs, false)).2.2 = false := by
    cases he : (recS (bs, false)).2.2 with
    | false => rfl
    | true => exact absurd (.inl he) h2
  have e2 : (recS (bs, false)).2.1 = [] := Classical.byContradiction fun he => h2 (.inr (.inl he))
  have e3 : goodV (recS (bs, false)).1 = true := by
    cases he : goodV (recS (bs, false)).1 with
    | true => rfl
    | false => exact absurd (.inr (.inr he)) h2
  injection h with h
  subst h
  obtain ⟨_, g, _⟩ := rec_sound (bs, false) e1
  rw [e2, List.append_nil] at g
  exact ⟨g, e3⟩
theorem recS_comp {x : RecV} (h : goodV x = true) : recS (recD x, false) = (x, ([], false)) := by
  have := rec_comp x [] (right_P (goodV_parts h).1)
  rwa [List.append_nil] at this
theorem readZ_comp {x : RecV} (h : goodV x = true) : readZ (recD x) = some x := by
  unfold readZ
  rw [if_neg (by have := (goodV_parts h).2; omega), recS_comp h, if_neg]
  rintro (q | q | q)
  · cases q
  · exact q rfl
  · rw [h] at q
    cases q
theorem readZ_cut {x : RecV} (h : goodV x = true) {k : Nat} (hk : k < (recD x).length) : readZ ((recD x).take k) = none := by
  cases hz : readZ ((recD x).take k) with
  | none => rfl
  | some y =>
    exfalso
    obtain ⟨e1, e2⟩ := readZ_sound hz
    have e3 : recD y ++ (recD x).drop k = recD x ++ [] := by rw [← e1, List.take_append_drop, List.append_nil]
    have e4 : (recD x).drop k = [] := by
      generalize hq : (recD x).drop k = q at e3
      rw [recD_undat y, recD_undat x] at e3
      exact (recB_pf (goodV_parts e2).1 (goodV_parts h).1 e3).2.2.2.2.2
    have := congrArg List.length e4
    rw [List.length_drop] at this
    simp at this
    omega
def resR : Option RecV → RecV
  | none => (0, 0, false, [], [])
  | some x => x
def errR : Option RecV → Int
  | none => 4
  | some _ => 0
/-! ### How long what is read can be -/
theorem strT_len (most : Nat) (s : St) : (strT most s).1.length ≤ most := by
  unfold strT
  simp only
  split
  · unfold getStr
    split
    · exact Nat.zero_le _
    · rename_i q
      simp only [not_or] at q
      rw [List.length_take]
      omega
  · exact Nat.zero_le _
theorem loop_all {α : Type} {f : St → α × St} {D : α → Prop} (hf : ∀ s, D (f s).1) : ∀ (n : Nat) (a : List α) (s : St), (∀ x ∈ a, D x) → ∀ x ∈ (loopT f n a s).1, D x
  | 0, a, s, h => h
  | n + 1, a, s, h => by
    rw [loopT]
    split
    · exact h
    · exact loop_all hf n _ _ (fun x hx => by
        rcases List.mem_append.1 hx with hx | hx
        · exact h x hx
        · rw [List.mem_singleton.1 hx]
          exact hf s)
theorem times_all {α : Type} {f : St → α × St} {D : α → Prop} (hf : ∀ s, D (f s).1) (most : Nat) (s : St) : ∀ x ∈ (timesT most f s).1, D x := loop_all hf _ _ _ (by simp)
def SmP (p : Pr) : Prop := p.1.length ≤ 256 ∧ p.2.1.length ≤ 256
def SmD (d : Dat) : Prop := d.2.1.length ≤ 256 ∧ d.2.2.1.length ≤ 256 ∧ ∀ p ∈ d.2.2.2, SmP p
def SmV (x : RecV) : Prop := (∀ d ∈ x.2.2.2.1, SmD d) ∧ ∀ p ∈ x.2.2.2.2, SmP p
theorem pairS_sm (s : St) : SmP (pairS s).1 := ⟨Nat.le_trans (strT_len _ _) (by decide), strT_len _ _⟩
theorem writeS_sm (s : St) : SmP (writeS s).1 := by
  refine ⟨Nat.le_trans (strT_len _ _) (by decide), ?_⟩
  unfold writeS valS
  simp only
  split
  · exact Nat.zero_le _
  · exact strT_len _ _
theorem readS_sm (s : St) : SmD (readS s).1 := by
  unfold readS toS
  refine ⟨Nat.le_trans (strT_len _ _) (by decide), ?_, times_all pairS_sm _ _⟩
  simp only
  split
  · exact Nat.le_trans (strT_len _ _) (by decide)
  · exact Nat.zero_le _
theorem recS_sm (s : St) : SmV (recS s).1 := ⟨times_all readS_sm _ _, times_all writeS_sm _ _⟩
theorem smV_short {x : RecV} {us : List (RR × List Pr)} (h : SmV x) (hd : us.map dat = x.2.2.2.1) : ShortR us ∧ ShortL x.2.2.2.2 := by
  refine ⟨fun u hu => ?_, fun p hp => ⟨Nat.le_trans (h.2 p hp).1 (by decide), Nat.le_trans (h.2 p hp).2 (by decide)⟩⟩
  obtain ⟨h1, h2, h3⟩ := h.1 (dat u) (hd ▸ List.mem_map_of_mem hu)
  exact ⟨Nat.le_trans h1 (by decide), Nat.le_trans h2 (by decide), fun p hp => ⟨Nat.le_trans (h3 p hp).1 (by decide), Nat.le_trans (h3 p hp).2 (by decide)⟩⟩
/-- What is taken in whole is what was written. -/
theorem recS_whole {bs : Bs} (h : (recS (bs, false)).2.2 = false) (hn : (recS (bs, false)).2.1 = []) : bs = recD (recS (bs, false)).1 := by
  obtain ⟨_, g, _⟩ := rec_sound (bs, false) h
  rwa [hn, List.append_nil] at g
end Go.Proofs.Ytnkkeehoejmcnaa

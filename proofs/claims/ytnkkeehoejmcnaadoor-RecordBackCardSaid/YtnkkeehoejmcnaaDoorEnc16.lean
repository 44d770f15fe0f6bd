/- The plain law of records as bytes: no two have the same. -/
import Derived.Test.YtnkkeehoejmcnaaDoorRec8
set_option linter.unusedVariables false
set_option linter.unusedSimpArgs false
namespace Go.Proofs.YtnkkeehoejmcnaaDoor
open Go Go.RowKit Go.Proofs.E
def valB (bs : Bs) : Nat := bs.foldl (fun a b => a * 256 + b.toNat) 0
theorem valB_snoc (bs : Bs) (b : UInt8) : valB (bs ++ [b]) = valB bs * 256 + b.toNat := by
  unfold valB
  rw [List.foldl_append]
  rfl
theorem valB_beN (n : Nat) : valB (beN n) = n := by
  induction n using Nat.strongRecOn with
  | _ n ih =>
    by_cases h : n = 0
    · subst h
      rw [beN_zero]
      rfl
    · rw [beN_pos (by omega), valB_snoc, ih (n / 256) (by omega), UInt8.toNat_ofNat', Nat.mod_eq_of_lt (by omega : n % 256 < 2 ^ 8)]
      omega
theorem beN_one {n : Nat} (h : 0 < n) : 0 < (beN n).length := by
  rw [beN_pos h]
  simp
theorem ofNat_inj {a b : Nat} (ha : a < 256) (hb : b < 256) (h : UInt8.ofNat a = UInt8.ofNat b) : a = b := by
  have := congrArg UInt8.toNat h
  rwa [UInt8.toNat_ofNat', UInt8.toNat_ofNat', Nat.mod_eq_of_lt ha, Nat.mod_eq_of_lt hb] at this
theorem numB_pf {n m : Nat} {r s : Bs} (hn : n < 2 ^ 64) (hm : m < 2 ^ 64) (h : numB n ++ r = numB m ++ s) : n = m ∧ r = s := by
  have ln := beN_len8 hn
  have lm := beN_len8 hm
  unfold numB at h
  by_cases q1 : n < 248
  · rw [if_pos q1] at h
    by_cases q2 : m < 248
    · rw [if_pos q2] at h
      simp only [List.cons_append, List.nil_append, List.cons.injEq] at h
      exact ⟨ofNat_inj (by omega) (by omega) h.1, h.2⟩
    · rw [if_neg q2] at h
      simp only [List.cons_append, List.nil_append, List.cons.injEq] at h
      have := beN_one (n := m) (by omega)
      have := ofNat_inj (by omega) (by omega) h.1
      omega
  · rw [if_neg q1] at h
    by_cases q2 : m < 248
    · rw [if_pos q2] at h
      simp only [List.cons_append, List.nil_append, List.cons.injEq] at h
      have := beN_one (n := n) (by omega)
      have := ofNat_inj (by omega) (by omega) h.1
      omega
    · rw [if_neg q2] at h
      simp only [List.cons_append, List.cons.injEq] at h
      have h1 := ofNat_inj (by omega) (by omega) h.1
      obtain ⟨h2, h3⟩ := List.append_inj h.2 (by omega)
      have := congrArg valB h2
      rw [valB_beN, valB_beN] at this
      exact ⟨this, h3⟩
theorem strB_pf {a b r s : Bs} (ha : a.length < 2 ^ 64) (hb : b.length < 2 ^ 64) (h : strB a ++ r = strB b ++ s) : a = b ∧ r = s := by
  unfold strB at h
  rw [List.append_assoc, List.append_assoc] at h
  obtain ⟨h1, h2⟩ := numB_pf ha hb h
  exact List.append_inj h2 h1
theorem flagB_pf {a b : Bool} {r s : Bs} (h : flagB a ++ r = flagB b ++ s) : a = b ∧ r = s := by
  unfold flagB at h
  simp only [List.cons_append, List.nil_append, List.cons.injEq] at h
  refine ⟨?_, h.2⟩
  cases a <;> cases b <;> first | rfl | (exfalso; revert h; simp)
theorem flat_pf {α β : Type} {f : α → Bs} {D : α → Prop} (g : α → β) (h : ∀ x y r s, D x → D y → f x ++ r = f y ++ s → g x = g y ∧ r = s) :
    ∀ (xs ys : List α) (r s : Bs), xs.length = ys.length → (∀ x ∈ xs, D x) → (∀ y ∈ ys, D y) → xs.flatMap f ++ r = ys.flatMap f ++ s → xs.map g = ys.map g ∧ r = s
  | [], [], r, s, _, _, _, he => ⟨rfl, by simpa using he⟩
  | [], _ :: _, _, _, hl, _, _, _ => by cases hl
  | _ :: _, [], _, _, hl, _, _, _ => by cases hl
  | x :: xs, y :: ys, r, s, hl, hx, hy, he => by
    rw [List.flatMap_cons, List.flatMap_cons, List.append_assoc, List.append_assoc] at he
    obtain ⟨h1, h2⟩ := h x y _ _ (hx x (by simp)) (hy y (by simp)) he
    obtain ⟨h3, h4⟩ := flat_pf g h xs ys r s (by simpa using hl) (fun z hz => hx z (by simp [hz])) (fun z hz => hy z (by simp [hz])) h2
    exact ⟨by rw [List.map_cons, List.map_cons, h1, h3], h4⟩
theorem goodPB_dead {p : Pr} (h : goodPB p = true) (hd : p.2.2 = true) : p.2.1 = [] := by
  unfold goodPB at h
  simp only [Bool.and_eq_true, Bool.or_eq_true, decide_eq_true_eq, Bool.not_eq_true', hd] at h
  simpa using h.2.2.2
theorem writeB_pf (p q : Pr) (r s : Bs) (hp : goodPB p = true) (hq : goodPB q = true) (h : writeB p ++ r = writeB q ++ s) : id p = id q ∧ r = s := by
  have p1 := goodPB_small hp
  have q1 := goodPB_small hq
  have p2 := goodPB_dead hp
  have q2 := goodPB_dead hq
  obtain ⟨a, b, d⟩ := p
  obtain ⟨x, y, z⟩ := q
  unfold SmallP at p1 q1
  simp only at p1 q1 p2 q2
  unfold writeB at h
  simp only [List.append_assoc] at h
  obtain ⟨h1, h2⟩ := strB_pf (by omega) (by omega) h
  obtain ⟨h3, h4⟩ := flagB_pf h2
  subst h1 h3
  cases d with
  | true =>
    rw [if_pos rfl, if_pos rfl] at h4
    rw [p2 rfl, q2 rfl]
    exact ⟨rfl, h4⟩
  | false =>
    rw [if_neg (by simp), if_neg (by simp)] at h4
    obtain ⟨h5, h6⟩ := strB_pf (by omega) (by omega) h4
    subst h5
    exact ⟨rfl, h6⟩
theorem pairB_pf (p q : Pr) (r s : Bs) (hp : SmallP p) (hq : SmallP q) (h : pairB p ++ r = pairB q ++ s) : (p.1, p.2.1) = (q.1, q.2.1) ∧ r = s := by
  unfold SmallP at hp hq
  unfold pairB at h
  simp only [List.append_assoc] at h
  obtain ⟨h1, h2⟩ := strB_pf (by omega) (by omega) h
  obtain ⟨h3, h4⟩ := strB_pf (by omega) (by omega) h2
  exact ⟨by rw [h1, h3], h4⟩
theorem alive_inj : ∀ (xs ys : List Pr), xs.map (fun p => (p.1, p.2.1)) = ys.map (fun p => (p.1, p.2.1)) → (∀ p ∈ xs, p.2.2 = false) → (∀ p ∈ ys, p.2.2 = false) → xs = ys
  | [], [], _, _, _ => rfl
  | [], _ :: _, h, _, _ => by simp at h
  | _ :: _, [], h, _, _ => by simp at h
  | (a, b, d) :: xs, (x, y, z) :: ys, h, h1, h2 => by
    simp only [List.map_cons, List.cons.injEq, Prod.mk.injEq] at h
    have e1 := h1 (a, b, d) (by simp)
    have e2 := h2 (x, y, z) (by simp)
    simp only at e1 e2
    rw [h.1.1, h.1.2, e1, e2, alive_inj xs ys h.2 (fun p hp => h1 p (by simp [hp])) (fun p hp => h2 p (by simp [hp]))]
theorem good_alive {x : RR} {ps : List Pr} (h : goodRB x ps = true) : ∀ p ∈ ps, p.2.2 = false := by
  intro p hp
  have := List.all_eq_true.1 (goodR_parts h).2.2.2.2.2 p hp
  unfold inB at this
  rw [Bool.and_eq_true] at this
  simpa using this.1
theorem readB_pf (u v : RR × List Pr) (r s : Bs) (hu : goodRB u.1 u.2 = true) (hv : goodRB v.1 v.2 = true) (h : readB u ++ r = readB v ++ s) : dat u = dat v ∧ r = s := by
  obtain ⟨a1, a2, a3, a4, a5, a6⟩ := goodR_parts hu
  obtain ⟨b1, b2, b3, b4, b5, b6⟩ := goodR_parts hv
  have al := good_alive hu
  have bl := good_alive hv
  unfold readB at h
  simp only [List.append_assoc] at h
  obtain ⟨h1, h2⟩ := flagB_pf h
  obtain ⟨h3, h4⟩ := strB_pf (by omega) (by omega) h2
  have h5 : u.1.2.2.1 = v.1.2.2.1 ∧ numB u.2.length ++ (u.2.flatMap pairB ++ r) = numB v.2.length ++ (v.2.flatMap pairB ++ s) := by
    cases hs : u.1.1 with
    | true =>
      rw [if_pos hs, if_pos (h1 ▸ hs)] at h4
      exact strB_pf (by omega) (by omega) h4
    | false =>
      have hs2 : v.1.1 = false := h1 ▸ hs
      rw [if_neg (by simp [hs]), if_neg (by simp [hs2])] at h4
      rw [hs] at a5
      rw [hs2] at b5
      have a7 := a5.resolve_left (by simp)
      have b7 := b5.resolve_left (by simp)
      rw [a7.2.1, b7.2.1]
      exact ⟨rfl, by simpa using h4⟩
  obtain ⟨h6, h7⟩ := h5
  obtain ⟨h8, h9⟩ := numB_pf (by omega) (by omega) h7
  obtain ⟨h10, h11⟩ := flat_pf (fun p : Pr => (p.1, p.2.1)) pairB_pf u.2 v.2 r s h8 (fun p hp => goodPB_small (goodL_all _ _ a4 p hp)) (fun p hp => goodPB_small (goodL_all _ _ b4 p hp)) h9
  refine ⟨dat_iff.2 ⟨h1, h3, h6, alive_inj _ _ h10 al bl⟩, h11⟩
theorem recB_pf {ses snap ses2 snap2 : Nat} {strict strict2 : Bool} {us vs : List (RR × List Pr)} {wz zs : List Pr} {r s : Bs} (ha : rightB ses snap us wz = true) (hb : rightB ses2 snap2 vs zs = true) (h : recB ses snap strict us wz ++ r = recB ses2 snap2 strict2 vs zs ++ s) :
    ses = ses2 ∧ snap = snap2 ∧ strict = strict2 ∧ us.map dat = vs.map dat ∧ wz = zs ∧ r = s := by
  obtain ⟨⟨a1, a2, a3, a4, a5, a6, a7⟩, a8⟩ := right_parts ha
  obtain ⟨⟨b1, b2, b3, b4, b5, b6, b7⟩, b8⟩ := right_parts hb
  unfold recB at h
  simp only [List.append_assoc] at h
  obtain ⟨h1, h⟩ := numB_pf (by omega) (by omega) h
  obtain ⟨h2, h⟩ := numB_pf (by omega) (by omega) h
  obtain ⟨h3, h⟩ := flagB_pf h
  obtain ⟨h4, h⟩ := numB_pf (by omega) (by omega) h
  obtain ⟨h5, h⟩ := flat_pf dat readB_pf us vs _ _ h4 (readsGo_all _ _ a8) (readsGo_all _ _ b8) h
  obtain ⟨h6, h⟩ := numB_pf (by omega) (by omega) h
  obtain ⟨h7, h⟩ := flat_pf id writeB_pf wz zs r s h6 (goodL_all _ _ a7) (goodL_all _ _ b7) h
  rw [List.map_id, List.map_id] at h7
  exact ⟨h1, h2, h3, h5, h7, h⟩
/-- What is alike has the same bytes. -/
theorem readB_dat {u v : RR × List Pr} (h : dat u = dat v) : readB u = readB v := by
  obtain ⟨h1, h2, h3, h4⟩ := dat_iff.1 h
  unfold readB
  rw [h1, h2, h3, h4]
theorem flat_dat : ∀ {us vs : List (RR × List Pr)}, us.map dat = vs.map dat → us.flatMap readB = vs.flatMap readB
  | [], [], _ => rfl
  | [], _ :: _, h => by simp at h
  | _ :: _, [], h => by simp at h
  | u :: us, v :: vs, h => by
    simp only [List.map_cons, List.cons.injEq] at h
    rw [List.flatMap_cons, List.flatMap_cons, readB_dat h.1, flat_dat h.2]
theorem recB_dat {ses snap : Nat} {strict : Bool} {us vs : List (RR × List Pr)} {wz : List Pr} (h : us.map dat = vs.map dat) : recB ses snap strict us wz = recB ses snap strict vs wz := by
  have hl : us.length = vs.length := by simpa using congrArg List.length h
  unfold recB
  rw [hl, flat_dat h]
end Go.Proofs.YtnkkeehoejmcnaaDoor

/- The plain law of reading records: what is taken from bytes is what was written, and the other way round. -/
import Derived.Test.YtnkkeehoejmcnaaSrc
set_option linter.unusedVariables false
set_option linter.unusedSimpArgs false
namespace Go.Proofs.Ytnkkeehoejmcnaa
open Go Go.RowKit Go.Proofs.E
def loopT {α : Type} (f : St → α × St) : Nat → List α → St → List α × St
  | 0, a, s => (a, s)
  | n + 1, a, s => if s.2 = true then (a, s) else loopT f n (a ++ [(f s).1]) (f s).2
def pairS (s : St) : Pr × St := (((strT 64 s).1, (strT 256 (strT 64 s).2).1, false), (strT 256 (strT 64 s).2).2)
def toS (sc : Bool) (s : St) : Bs × St := if sc = true then strT 64 s else ([], s)
def valS (d : Bool) (s : St) : Bs × St := if d = true then ([], s) else strT 256 s
def timesT {α : Type} (most : Nat) (f : St → α × St) (s : St) : List α × St := loopT f (numT most s).1 [] (numT most s).2
def readS (s : St) : Dat × St :=
  let a := flagT s
  let b := strT 64 a.2
  let c := toS a.1 b.2
  let d := timesT 200 pairS c.2
  ((a.1, b.1, c.1, d.1), d.2)
def writeS (s : St) : Pr × St :=
  let a := strT 64 s
  let b := flagT a.2
  let c := valS b.1 b.2
  ((a.1, c.1, b.1), c.2)
abbrev RecV := Nat × Nat × Bool × List Dat × List Pr
def recS (s : St) : RecV × St :=
  let a := numT 8 s
  let b := numT 1099511627776 a.2
  let c := flagT b.2
  let d := timesT 64 readS c.2
  let e := timesT 64 writeS d.2
  ((a.1, b.1, c.1, d.1, e.1), e.2)
theorem gotSt_false {s : St} {n : Nat} {ok : Bool} (h : (gotSt s n ok).2.2 = false) : s.2 = false ∧ ok = true ∧ (gotSt s n ok) = (true, (s.1.drop n, false)) := by
  unfold gotSt at h ⊢
  split at h
  · cases h
  · rename_i q
    have h1 : s.2 = false := by
      cases hs : s.2 with
      | true => exact absurd (.inl hs) q
      | false => rfl
    have h2 : ok = true := by
      cases ok with
      | true => rfl
      | false => exact absurd (.inr rfl) q
    exact ⟨h1, h2, by rw [if_neg q]⟩
theorem gotSt_mk {s : St} {n : Nat} {ok : Bool} (h1 : s.2 = false) (h2 : ok = true) : gotSt s n ok = (true, (s.1.drop n, false)) := by
  unfold gotSt
  rw [if_neg (by rintro (h | h); rw [h1] at h; cases h; rw [h2] at h; cases h)]
theorem num_sound {most : Nat} {s : St} (h : (numT most s).2.2 = false) : s.2 = false ∧ s.1 = numB (numT most s).1 ++ (numT most s).2.1 ∧ (numT most s).1 ≤ most ∧ (numT most s).1 < 2 ^ 64 := by
  obtain ⟨h1, h2, h3⟩ := gotSt_false (show (gotSt s (getNum s.1).2.1 ((getNum s.1).2.2 && decide ((getNum s.1).1 ≤ most))).2.2 = false from h)
  unfold numT
  rw [h3, if_pos rfl]
  rw [Bool.and_eq_true, decide_eq_true_eq] at h2
  obtain ⟨g1, g2, g3, g4⟩ := getNum_dec (bs := s.1) (n := (getNum s.1).1) (k := (getNum s.1).2.1) (by rw [← h2.1])
  exact ⟨h1, g1, h2.2, g2⟩
theorem num_comp {most v : Nat} {r : Bs} (hv : v ≤ most) (h64 : v < 2 ^ 64) : numT most (numB v ++ r, false) = (v, (r, false)) := by
  unfold numT
  simp only
  rw [getNum_enc h64, gotSt_mk rfl (by simp [hv]), if_pos rfl]
  simp
theorem flag_sound {s : St} (h : (flagT s).2.2 = false) : s.2 = false ∧ s.1 = flagB (flagT s).1 ++ (flagT s).2.1 := by
  obtain ⟨h1, h2, h3⟩ := gotSt_false (show (gotSt s (getFlag s.1).2.1 (getFlag s.1).2.2).2.2 = false from h)
  unfold flagT
  rw [h3]
  refine ⟨h1, ?_⟩
  obtain ⟨bs, bad⟩ := s
  simp only at h2 ⊢
  cases bs with
  | nil => cases h2
  | cons b r =>
    rw [getFlag_cons] at h2 ⊢
    split at h2 <;> rename_i q
    · cases h2
    · rw [if_neg q, Bool.true_and]
      unfold flagB
      have hb : b = 0 ∨ b = 1 := by
        have : b.toNat = 0 ∨ b.toNat = 1 := by omega
        rcases this with h | h
        · exact .inl (UInt8.toNat_inj.1 (by simpa using h))
        · exact .inr (UInt8.toNat_inj.1 (by simpa using h))
      rcases hb with rfl | rfl <;> rfl
theorem flag_comp {f : Bool} {r : Bs} : flagT (flagB f ++ r, false) = (f, (r, false)) := by
  unfold flagT flagB
  cases f <;> rfl
theorem str_sound {most : Nat} {s : St} (h : (strT most s).2.2 = false) : s.2 = false ∧ s.1 = strB (strT most s).1 ++ (strT most s).2.1 ∧ (strT most s).1.length ≤ most := by
  obtain ⟨h1, h2, h3⟩ := gotSt_false (show (gotSt s (getStr s.1 most).2.1 (getStr s.1 most).2.2).2.2 = false from h)
  unfold strT
  rw [h3, if_pos rfl]
  unfold getStr at h2 ⊢
  split at h2 <;> rename_i q
  · cases h2
  rw [if_neg q]
  simp only
  have q1 : (getNum s.1).2.2 = true := by
    cases hh : (getNum s.1).2.2 with
    | true => rfl
    | false => exact absurd (.inl hh) q
  have q2 : ¬ most < (getNum s.1).1 := fun hh => q (.inr (.inl hh))
  have q3 : ¬ s.1.length - (getNum s.1).2.1 < (getNum s.1).1 := fun hh => q (.inr (.inr hh))
  obtain ⟨g1, g2, g3, g4⟩ := getNum_dec (bs := s.1) (n := (getNum s.1).1) (k := (getNum s.1).2.1) (by rw [← q1])
  have hl : ((s.1.drop (getNum s.1).2.1).take (getNum s.1).1).length = (getNum s.1).1 := by rw [List.length_take, List.length_drop]; omega
  refine ⟨h1, ?_, by omega⟩
  unfold strB
  rw [hl, List.append_assoc, ← List.drop_drop, List.take_append_drop]
  exact g1
theorem str_comp {most : Nat} {v r : Bs} (hv : v.length ≤ most) (h64 : v.length < 2 ^ 64) : strT most (strB v ++ r, false) = (v, (r, false)) := by
  have hg : getStr (strB v ++ r) most = (v, (numB v.length).length + v.length, true) := by
    unfold getStr strB
    rw [List.append_assoc, getNum_enc h64]
    simp only
    rw [if_neg (by rintro (h | h | h); cases h; omega; rw [List.length_append, List.length_append] at h; omega), List.drop_left, List.take_left]
  unfold strT
  simp only
  rw [hg, gotSt_mk rfl rfl, if_pos rfl]
  unfold strB
  rw [List.append_assoc, ← List.drop_drop, List.drop_left, List.drop_left]
/-- A taker of values that are written so. -/
def Sound {α : Type} (f : St → α × St) (enc : α → Bs) (D : α → Prop) : Prop := ∀ s, (f s).2.2 = false → s.2 = false ∧ s.1 = enc (f s).1 ++ (f s).2.1 ∧ D (f s).1
theorem loop_sound {α : Type} {f : St → α × St} {enc : α → Bs} {D : α → Prop} (hf : Sound f enc D) : ∀ (n : Nat) (a : List α) (s : St), (loopT f n a s).2.2 = false →
    s.2 = false ∧ ∃ xs, (loopT f n a s).1 = a ++ xs ∧ xs.length = n ∧ s.1 = xs.flatMap enc ++ (loopT f n a s).2.1 ∧ ∀ x ∈ xs, D x
  | 0, a, s, h => ⟨h, [], by simp [loopT], rfl, by simp [loopT], by simp⟩
  | n + 1, a, s, h => by
    unfold loopT at h ⊢
    split at h <;> rename_i q
    · simp only at h
      rw [q] at h
      cases h
    rw [if_neg q]
    obtain ⟨h1, xs, h2, h3, h4, h5⟩ := loop_sound hf n _ _ h
    obtain ⟨g1, g2, g3⟩ := hf s h1
    refine ⟨g1, (f s).1 :: xs, by rw [h2]; simp, by rw [List.length_cons, h3], ?_, ?_⟩
    · rw [g2, h4, List.flatMap_cons, List.append_assoc]
    · intro x hx
      rcases List.mem_cons.1 hx with rfl | hx
      · exact g3
      · exact h5 x hx
def Comp {α : Type} (f : St → α × St) (enc : α → Bs) (D : α → Prop) : Prop := ∀ x r, D x → f (enc x ++ r, false) = (x, (r, false))
theorem loop_comp {α : Type} {f : St → α × St} {enc : α → Bs} {D : α → Prop} (hf : Comp f enc D) : ∀ (xs : List α) (a : List α) (r : Bs), (∀ x ∈ xs, D x) → loopT f xs.length a (xs.flatMap enc ++ r, false) = (a ++ xs, (r, false))
  | [], a, r, _ => by simp [loopT]
  | x :: xs, a, r, h => by
    rw [List.length_cons]
    unfold loopT
    rw [if_neg (by simp), List.flatMap_cons, List.append_assoc, hf x _ (h x (by simp))]
    simp only
    rw [loop_comp hf xs _ r (fun y hy => h y (by simp [hy]))]
    simp
theorem times_sound {α : Type} {f : St → α × St} {enc : α → Bs} {D : α → Prop} {most : Nat} (hf : Sound f enc D) {s : St} (h : (timesT most f s).2.2 = false) :
    s.2 = false ∧ s.1 = numB (timesT most f s).1.length ++ ((timesT most f s).1.flatMap enc ++ (timesT most f s).2.1) ∧ (timesT most f s).1.length ≤ most ∧ ∀ x ∈ (timesT most f s).1, D x := by
  unfold timesT at h ⊢
  obtain ⟨h1, xs, h2, h3, h4, h5⟩ := loop_sound hf _ _ _ h
  obtain ⟨g1, g2, g3, g4⟩ := num_sound h1
  rw [h2, List.nil_append, h3]
  refine ⟨g1, ?_, g3, h5⟩
  rw [← h4]
  exact g2
theorem times_comp {α : Type} {f : St → α × St} {enc : α → Bs} {D : α → Prop} {most : Nat} (hf : Comp f enc D) (xs : List α) (r : Bs) (hl : xs.length ≤ most) (h64 : xs.length < 2 ^ 64) (h : ∀ x ∈ xs, D x) :
    timesT most f (numB xs.length ++ (xs.flatMap enc ++ r), false) = (xs, (r, false)) := by
  unfold timesT
  rw [num_comp hl h64]
  simp only
  rw [loop_comp hf xs [] r h]
  simp
def PairD (p : Pr) : Prop := p.1.length ≤ 64 ∧ p.2.1.length ≤ 256 ∧ p.2.2 = false
theorem pair_sound : Sound pairS pairB PairD := fun s h => by
  obtain ⟨h1, h2, h3⟩ := str_sound (show (strT 256 (strT 64 s).2).2.2 = false from h)
  obtain ⟨g1, g2, g3⟩ := str_sound h1
  refine ⟨g1, ?_, g3, h3, rfl⟩
  rw [g2, h2]
  unfold pairB pairS
  simp
theorem pair_comp : Comp pairS pairB PairD := fun p r ⟨h1, h2, h3⟩ => by
  obtain ⟨a, b, d⟩ := p
  simp only at h1 h2 h3
  subst h3
  unfold pairB pairS
  simp only [List.append_assoc]
  rw [str_comp h1 (by omega)]
  simp only
  rw [str_comp h2 (by omega)]
def readD (d : Dat) : Bs := flagB d.1 ++ (strB d.2.1 ++ ((if d.1 = true then strB d.2.2.1 else []) ++ (numB d.2.2.2.length ++ d.2.2.2.flatMap pairB)))
theorem readD_dat (u : RR × List Pr) : readD (dat u) = readB u := rfl
def ReadP (d : Dat) : Prop := d.2.1.length ≤ 64 ∧ d.2.2.1.length ≤ 64 ∧ (d.1 = false → d.2.2.1 = []) ∧ d.2.2.2.length ≤ 200 ∧ ∀ p ∈ d.2.2.2, PairD p
theorem to_sound {sc : Bool} {s : St} (h : (toS sc s).2.2 = false) : s.2 = false ∧ s.1 = (if sc = true then strB (toS sc s).1 else []) ++ (toS sc s).2.1 ∧ (toS sc s).1.length ≤ 64 ∧ (sc = false → (toS sc s).1 = []) := by
  unfold toS at h ⊢
  cases sc with
  | true =>
    simp only [if_pos] at h ⊢
    obtain ⟨h1, h2, h3⟩ := str_sound h
    exact ⟨h1, h2, h3, fun h => by cases h⟩
  | false => exact ⟨h, by simp, by simp, fun _ => by simp⟩
theorem read_sound : Sound readS readD ReadP := fun s h => by
  unfold readS at h ⊢
  simp only at h ⊢
  obtain ⟨h1, h2, h3, h4⟩ := times_sound pair_sound h
  obtain ⟨g1, g2, g3, g4⟩ := to_sound h1
  obtain ⟨k1, k2, k3⟩ := str_sound g1
  obtain ⟨l1, l2⟩ := flag_sound k1
  refine ⟨l1, ?_, k3, g3, g4, h3, h4⟩
  unfold readD
  simp only [List.append_assoc]
  rw [← h2, ← g2, ← k2]
  exact l2
theorem read_comp : Comp readS readD ReadP := fun d r ⟨h1, h2, h3, h4, h5⟩ => by
  obtain ⟨sc, key, to, ps⟩ := d
  simp only at h1 h2 h3 h4 h5
  unfold readS readD
  simp only [List.append_assoc]
  rw [flag_comp]
  simp only
  rw [str_comp h1 (by omega)]
  simp only
  have ht : ∀ q : Bs, toS sc ((if sc = true then strB to else []) ++ q, false) = (to, (q, false)) := fun q => by
    unfold toS
    cases sc with
    | true => rw [if_pos rfl, if_pos rfl]; exact str_comp h2 (by omega)
    | false => rw [h3 rfl]; rfl
  rw [ht]
  simp only
  rw [times_comp pair_comp ps r h4 (by omega) h5]
def WriteP (p : Pr) : Prop := p.1.length ≤ 64 ∧ p.2.1.length ≤ 256 ∧ (p.2.2 = true → p.2.1 = [])
theorem val_sound {d : Bool} {s : St} (h : (valS d s).2.2 = false) : s.2 = false ∧ s.1 = (if d = true then [] else strB (valS d s).1) ++ (valS d s).2.1 ∧ (valS d s).1.length ≤ 256 ∧ (d = true → (valS d s).1 = []) := by
  unfold valS at h ⊢
  cases d with
  | true => exact ⟨h, by simp, by simp, fun _ => by simp⟩
  | false =>
    rw [if_neg (by simp)] at h
    rw [if_neg (by simp), if_neg (by simp)]
    obtain ⟨h1, h2, h3⟩ := str_sound h
    exact ⟨h1, h2, h3, fun h => by cases h⟩
theorem write_sound : Sound writeS writeB WriteP := fun s h => by
  unfold writeS at h ⊢
  simp only at h ⊢
  obtain ⟨g1, g2, g3, g4⟩ := val_sound h
  obtain ⟨l1, l2⟩ := flag_sound g1
  obtain ⟨k1, k2, k3⟩ := str_sound l1
  refine ⟨k1, ?_, k3, g3, g4⟩
  unfold writeB
  simp only [List.append_assoc]
  rw [← g2, ← l2]
  exact k2
theorem write_comp : Comp writeS writeB WriteP := fun p r ⟨h1, h2, h3⟩ => by
  obtain ⟨a, b, d⟩ := p
  simp only at h1 h2 h3
  unfold writeS writeB
  simp only [List.append_assoc]
  rw [str_comp h1 (by omega)]
  simp only
  rw [flag_comp]
  simp only
  have hv : valS d ((if d = true then [] else strB b) ++ r, false) = (b, (r, false)) := by
    unfold valS
    cases d with
    | true => rw [h3 rfl]; rfl
    | false => rw [if_neg (by simp), if_neg (by simp)]; exact str_comp h2 (by omega)
  rw [hv]
def recD (x : RecV) : Bs := numB x.1 ++ (numB x.2.1 ++ (flagB x.2.2.1 ++ (numB x.2.2.2.1.length ++ (x.2.2.2.1.flatMap readD ++ (numB x.2.2.2.2.length ++ x.2.2.2.2.flatMap writeB)))))
theorem recD_dat (ses snap : Nat) (strict : Bool) (us : List (RR × List Pr)) (wz : List Pr) : recD (ses, snap, strict, us.map dat, wz) = recB ses snap strict us wz := by
  unfold recD recB
  simp only [List.length_map, List.flatMap_map]
  rfl
def RecP (x : RecV) : Prop := x.1 ≤ 8 ∧ x.2.1 ≤ 1099511627776 ∧ x.2.2.2.1.length ≤ 64 ∧ (∀ d ∈ x.2.2.2.1, ReadP d) ∧ x.2.2.2.2.length ≤ 64 ∧ ∀ p ∈ x.2.2.2.2, WriteP p
theorem rec_sound : Sound recS recD RecP := fun s h => by
  unfold recS at h ⊢
  simp only at h ⊢
  obtain ⟨e1, e2, e3, e4⟩ := times_sound write_sound h
  obtain ⟨d1, d2, d3, d4⟩ := times_sound read_sound e1
  obtain ⟨c1, c2⟩ := flag_sound d1
  obtain ⟨b1, b2, b3, b4⟩ := num_sound c1
  obtain ⟨a1, a2, a3, a4⟩ := num_sound b1
  refine ⟨a1, ?_, a3, b3, d3, d4, e3, e4⟩
  unfold recD
  simp only [List.append_assoc]
  rw [← e2, ← d2, ← c2, ← b2]
  exact a2
theorem rec_comp : Comp recS recD RecP := fun x r ⟨h1, h2, h3, h4, h5, h6⟩ => by
  obtain ⟨ses, snap, strict, us, wz⟩ := x
  simp only at h1 h2 h3 h4 h5 h6
  unfold recS recD
  simp only [List.append_assoc]
  rw [num_comp h1 (by omega)]
  simp only
  rw [num_comp h2 (by omega)]
  simp only
  rw [flag_comp]
  simp only
  rw [times_comp read_comp us _ h3 (by omega) h4]
  simp only
  rw [times_comp write_comp wz r h5 (by omega) h6]
end Go.Proofs.Ytnkkeehoejmcnaa

/- Walks: the path of a leaf, the program's and the reference's.
   Walks: the path of a leaf, the reference's.
   Walks: what shows that leaves have grown of the first of them, the program's and the reference's.
   Walks: what shows that leaves have grown of the first of them, the reference's. -/
import Derived.Test.YtkdbinchlpdkmaaDoorQReceiptHolds23
set_option linter.unusedVariables false
set_option linter.unusedSimpArgs false
namespace Go.Proofs.E
open Go Go.RowKit
section
variable {P : Program} {ops : Array Oper} {Q : Exit → Act → World → Prop} {rest : List Oper} {l : List Value} {w w0 : World} {op : Op} {T : TypeId} {pos : String} {after : Array Edge}
variable {α : Type} {ty : Ty α} {S : List Nat} {d : Nat} {x : Operand} {t e : TypeId} {z : Value} {m by_ : Nat} [hu : Und P t (.slice e)] [hi : Inf P e z m by_] {v : Value} {xs : List α}
include hu hi
/-! Cuts of what is read in another world. -/
end
end Go.Proofs.E
namespace Go.Proofs.YtkdbinchlpdkmaaDoor
open Go Go.RowKit Go.Proofs.E
attribute [local irreducible] Go.wpList Go.Code.wp Go.Proofs.E.exec Go.Proofs.E.wpLexG
/-- The other sides of a leaf's way, from the root down. -/
def downF : Nat → List Hs → Nat → List Hs
  | 0, _, _ => []
  | f + 1, l, i => if l.length ≤ 1 then [] else if i < splitN l.length then rootH (l.drop (splitN l.length)) :: downF f (l.take (splitN l.length)) i else rootH (l.take (splitN l.length)) :: downF f (l.drop (splitN l.length)) (i - splitN l.length)
def downH (l : List Hs) (i : Nat) : List Hs := downF l.length l i
theorem downF_any : ∀ (f g : Nat) (l : List Hs) (i : Nat), l.length ≤ f → l.length ≤ g → l.length ≤ 9223372036854775807 → downF f l i = downF g l i
  | 0, 0, l, i, _, _, _ => rfl
  | 0, g + 1, l, i, h, _, _ => by rw [downF, downF, if_pos (by omega)]
  | f + 1, 0, l, i, _, h, _ => by rw [downF, downF, if_pos (by omega)]
  | f + 1, g + 1, l, i, hf, hg, hb => by
    rw [downF, downF]
    by_cases h : l.length ≤ 1
    · rw [if_pos h, if_pos h]
    · rw [if_neg h, if_neg h]
      have := splitN_lt (n := l.length) (by omega) hb
      rw [downF_any f g (l.take _) i (by rw [List.length_take]; omega) (by rw [List.length_take]; omega) (by rw [List.length_take]; omega)]
      rw [downF_any f g (l.drop _) _ (by rw [List.length_drop]; omega) (by rw [List.length_drop]; omega) (by rw [List.length_drop]; omega)]
theorem down_one {l : List Hs} {i : Nat} (h : l.length ≤ 1) : downH l i = [] := by
  have : ∀ f, downF f l i = [] := by
    intro f
    cases f with
    | zero => rfl
    | succ f => rw [downF, if_pos h]
  exact this _
theorem down_left {l : List Hs} {i : Nat} (h2 : 2 ≤ l.length) (hb : l.length ≤ 1000000000) (hi : i < splitN l.length) : downH l i = rootH (l.drop (splitN l.length)) :: downH (l.take (splitN l.length)) i := by
  have := splitN_lt (n := l.length) h2 (by omega)
  unfold downH
  obtain ⟨f, hf⟩ : ∃ f, l.length = f + 1 := ⟨l.length - 1, by omega⟩
  conv => lhs; rw [hf, downF]
  rw [if_neg (by omega), if_pos hi, downF_any f _ (l.take _) i (by rw [List.length_take]; omega) (Nat.le_refl _) (by rw [List.length_take]; omega)]
theorem down_right {l : List Hs} {i : Nat} (h2 : 2 ≤ l.length) (hb : l.length ≤ 1000000000) (hi : ¬ i < splitN l.length) : downH l i = rootH (l.take (splitN l.length)) :: downH (l.drop (splitN l.length)) (i - splitN l.length) := by
  have := splitN_lt (n := l.length) h2 (by omega)
  unfold downH
  obtain ⟨f, hf⟩ : ∃ f, l.length = f + 1 := ⟨l.length - 1, by omega⟩
  conv => lhs; rw [hf, downF]
  rw [if_neg (by omega), if_neg hi, downF_any f _ (l.drop _) _ (by rw [List.length_drop]; omega) (Nat.le_refl _) (by rw [List.length_drop]; omega)]
theorem downF_len : ∀ f l i, (downF f l i).length ≤ f
  | 0, _, _ => Nat.le_refl _
  | f + 1, l, i => by
    rw [downF]
    split
    · simp
    · split
      · have := downF_len f (l.take (splitN l.length)) i
        simp
        omega
      · have := downF_len f (l.drop (splitN l.length)) (i - splitN l.length)
        simp
        omega
theorem down_len (l : List Hs) (i : Nat) : (downH l i).length ≤ l.length := downF_len _ l i
def inZ (i : Int) (n : Nat) : Bool := decide (0 ≤ i) && decide (i < n)
def pathZ (l : List Hs) (i : Int) : List Hs := if inZ i l.length = true then (downH l i.toNat).reverse else []
end Go.Proofs.YtkdbinchlpdkmaaDoor
set_option linter.unusedVariables false
set_option linter.unusedSimpArgs false
namespace Go.Proofs.YtkdbinchlpdkmaaDoor
open Go Go.RowKit Go.Proofs.E
attribute [local irreducible] Go.wpList Go.Code.wp Go.Proofs.E.exec Go.Proofs.E.wpLexG
theorem inZ_t {n m : Nat} (h : m < n) : inZ (m : Int) n = true := by unfold inZ; rw [decide_eq_true (by omega : (0 : Int) ≤ (m : Int)), decide_eq_true (by omega : (m : Int) < (n : Int))]; rfl
theorem pathZ_t {l : List Hs} {m : Nat} (h : m < l.length) : pathZ l (m : Int) = (downH l m).reverse := by unfold pathZ; rw [inZ_t h, Int.toNat_natCast]; rfl
set_option maxHeartbeats 8000000 in
theorem rpath_any (N : Nat) : ∀ (v : Value) (lv : List Hs) (i : Int) (w : World), lv.length = N → (Ty.enc eH).Rd [] w v lv → lv.length ≤ 1000 →
    Calls Tryd.prog 15 #[v, .int .i64 i] w (Ret fun u w' => Ch [] w w' ∧ ∃ v', u = .tuple #[v', .bool (inZ i lv.length)] ∧ ∀ S, (∀ x ∈ S, x < w.heap.size) → (Ty.enc eH).Rd S w' v' (pathZ lv i)) := by
  induction N using Nat.strongRecOn with
  | _ N ih =>
  intro v lv i w hN hR hlen
  refine enter [v, .int .i64 i, undef, undef, undef, undef, undef, undef, undef, undef, undef, undef, undef, undef, undef, undef, undef, undef, undef, undef, undef, undef, undef, undef, undef, undef, undef, undef, undef, undef, undef, undef, undef, undef, undef, undef, undef, undef, undef, undef, undef, undef, undef, undef, undef, undef, undef, undef, undef, undef, undef, undef, undef, undef, undef, undef, undef, undef, undef, undef, undef, undef, undef, undef] Tryd.func15 rfl rfl ?_
  obtain ⟨A, cap, rfl⟩ := hR.form
  by_cases h0 : i < 0
  · (try refine wk ?_)
    refine c_condb rfl (fun _ => ?_) (fun h => by cases h)
    (try refine wk ?_)
    have hz : inZ i lv.length = false := by unfold inZ; rw [decide_eq_false (by omega)]; rfl
    refine out2 rfl ⟨Ch.refl _ _, _, by rw [hz]; rfl, fun S hS => ?_⟩
    unfold pathZ
    rw [hz]
    exact Ty.Rd.nil _ _ _ _ _
  · by_cases h1 : (lv.length : Int) ≤ i
    · (try refine wk ?_)
      refine c_cond rfl (fun _ => ?_) (fun h => absurd h1 h)
      (try refine wk ?_)
      have hz : inZ i lv.length = false := by unfold inZ; rw [decide_eq_false (by omega : ¬ i < (lv.length : Int)), Bool.and_false]
      refine out2 rfl ⟨Ch.refl _ _, _, by rw [hz]; rfl, fun S hS => ?_⟩
      unfold pathZ
      rw [hz]
      exact Ty.Rd.nil _ _ _ _ _
    · obtain ⟨m, rfl⟩ := Int.eq_ofNat_of_zero_le (by omega : 0 ≤ i)
      rw [pathZ_t (by omega), inZ_t (by omega)]
      (try refine wk ?_)
      refine c_cond rfl (fun h => absurd h h1) (fun _ => ?_)
      (try refine wk ?_)
      refine c_cond rfl (fun h2 => ?_) (fun h2 => ?_)
      · (try refine wk ?_)
        refine out2 rfl ⟨Ch.refl _ _, _, rfl, fun S hS => ?_⟩
        rw [down_one (by omega)]
        exact Ty.Rd.nil _ _ _ _ _
      · obtain ⟨hk0, hk1⟩ := splitN_lt (n := lv.length) (by omega) (by omega)
        (try refine wk ?_)
        (try ((with_reducible apply is_gd); first | refine gt ?_ | refine gf ?_ | refine gu ?_)); refine ca (rsplit_any (lv.length : Int) (by omega) w) ?_
        rintro _ w1 ⟨rfl, hw1⟩
        subst hw1
        rw [splitZ_nat]
        by_cases hm : m < splitN lv.length
        · have hdo := down_left (l := lv) (by omega) (by omega) hm
          rw [hdo, List.reverse_cons]
          generalize splitN lv.length = sk at *
          (try refine wk ?_)
          refine c_cond rfl (fun _ => ?_) (fun h => absurd (by omega : (m : Int) < sk) h)
          (try refine wk ?_)
          refine wl_cut_hi rfl hR rfl rfl (by omega) (by omega) (fun v1 hV1 => ?_)
          rw [Int.toNat_natCast] at hV1
          (try refine wk ?_)
          (try ((with_reducible apply is_gd); first | refine gt ?_ | refine gf ?_ | refine gu ?_)); refine ca (ih (lv.take sk).length (by rw [List.length_take]; omega) v1 (lv.take sk) (m : Int) w1 rfl hV1 (by rw [List.length_take]; omega)) ?_
          rintro _ w2 ⟨hc2, v2, rfl, hP⟩
          have hP := hP [] (by simp)
          rw [pathZ_t (by rw [List.length_take]; omega)] at hP
          have hdl := down_len (lv.take sk) m
          rw [List.length_take] at hdl
          obtain ⟨A2, c2, rfl⟩ := hP.form
          (try refine wk ?_)
          refine c_ordZ ([8], []) [] Tru (by kernel_rfl) (by kernel_rfl) (by kernel_rfl) (fun w3 hc3 hs3 => ?_)
          have hR3 := (hR.ch hc2).ch hc3
          have hP3 := hP.ch hc3
          have hc03 : Ch [] w1 w3 := hc2.then hc3
          (first | refine zn 1 rfl ?_ | refine znt 1 rfl ?_ | refine znff 1 rfl ?_); (first | refine zn 3 rfl ?_ | refine znt 3 rfl ?_ | refine znff 3 rfl ?_); (first | refine zn 4 rfl ?_ | refine znt 4 rfl ?_ | refine znff 4 rfl ?_)
          refine zn_cut_lo 5 rfl hR3 rfl rfl rfl (by omega) (by omega) (fun v4 hV4 => ?_)
          rw [Int.toNat_natCast] at hV4
          refine zn1 0 (by kernel_rfl) rfl (fun w4 hG4 => ?_)
          refine wl_buildSlice (parts := []) (vs := []) rfl rfl (by simp) (by omega) (fun w5 ba hba => ?_)
          refine x_wz (.inl (Gr.new stab_tru hba.ch)) rfl ?_
          have hc05 : Ch [] w1 w5 := (hc03.then hG4.ch).then hba.ch
          have hle : w1.heap.size ≤ ba := by rw [hba.at_]; exact (hc03.then hG4.ch).size
          refine zn1 2 (by kernel_rfl) rfl (fun w6 hG6 => ?_)
          refine wl_append_e (en := eH) (n := 32) (base := w1.heap.size) rfl rfl rfl (Blk.ch (show Blk w5 ba [] 30 from hba.blk) hG6.ch (by simp)) hle rfl (((hP3.ch hG4.ch).ch hba.ch).ch hG6.ch) (by rw [List.length_reverse]; omega) (by rw [List.length_reverse]; omega) (fun vv w7 hO7 hch7 => ?_)
          refine x_wz (.inl (Gr.new stab_tru hch7)) rfl ?_
          have hc07 : Ch [] w1 w7 := (hc05.then hG6.ch).then hch7
          have hV7 : (Ty.enc eH).Rd [] w7 v4 (lv.drop sk) := ((((hV4.ch hG4.ch).ch hba.ch).ch hG6.ch).ch hch7)
          refine zn1 6 (by kernel_rfl) rfl (fun w8 hG8 => ?_)
          (try ((with_reducible apply is_gd); first | refine gt ?_ | refine gf ?_ | refine gu ?_)); refine ca (rroot_any (lv.drop sk).length v4 (lv.drop sk) w8 rfl (hV7.ch hG8.ch) (by rw [List.length_drop]; omega)) ?_
          rintro _ w9 ⟨rfl, hc9⟩
          refine x_wz (.inl (Gr.new stab_tru hc9)) rfl ?_
          refine zn1 7 (by kernel_rfl) rfl (fun w10 hG10 => ?_)
          refine wl_buildSlice (parts := [(0, .tmp 42)]) (vs := [hv (rootH (lv.drop sk)).1]) rfl rfl (by simp [hv, Value.cells, (rootH (lv.drop sk)).2]) (by omega) (fun w11 bs hbs => ?_)
          refine x_wz (.inl (Gr.new stab_tru hbs.ch)) rfl ?_
          refine zn1 8 (by kernel_rfl) rfl (fun w12 hG12 => ?_)
          have hch712 : Ch [] w7 w12 := (((hG8.ch.then hc9).then hG10.ch).then hbs.ch).then hG12.ch
          have hO12 := hO7.ch hch712 (by simp)
          refine wl_append (en := eH) (n := 32) (v := vv) (ys := [rootH (lv.drop sk)]) rfl rfl (by decide) rfl hO12 (hc07.then hch712).size rfl ((hbs.blk.ch hG12.ch (by simp)).row (n := 32) (o := 0) (ds := [rootH (lv.drop sk)].flatMap eH.f) (by simp [hv, Value.cells, List.take_of_length_le, (rootH (lv.drop sk)).2])) (by simp; omega) (by simp; omega) (fun v13 w13 hO13 hch13 hat => ?_)
          have hc13 : Ch [] w1 w13 := (hc07.then hch712).trans hch13 (by simp) (fun x hx hm => by
            have := (hO12.lt (k := x) (by simpa using hm)).1
            omega)
          refine x_wz (.inr (by decide)) rfl ?_
          (first | refine zn 9 rfl ?_ | refine znt 9 rfl ?_ | refine znff 9 rfl ?_); (first | refine zn 10 rfl ?_ | refine znt 10 rfl ?_ | refine znff 10 rfl ?_)
          refine wz_done (by kernel_rfl) (fun w14 hG14 => ?_)
          (try refine wk ?_)
          exact out2 rfl ⟨hc13.then hG14.ch, _, rfl, fun S hS => (hO13.ch hG14.ch (by simp)).rd (fun q hq hm => by
            have h1 := (hO13.lt hq).1
            have h2 := hS _ hm
            omega) (by simp; omega)⟩
        · have hdo := down_right (l := lv) (by omega) (by omega) hm
          rw [hdo, List.reverse_cons]
          generalize splitN lv.length = sk at *
          (try refine wk ?_)
          refine c_cond rfl (fun h => absurd h (by omega)) (fun _ => ?_)
          (try refine wk ?_)
          refine wl_cut_lo rfl hR rfl rfl (by omega) (by omega) (fun v1 hV1 => ?_)
          rw [Int.toNat_natCast] at hV1
          (try refine wk ?_)
          (try ((with_reducible apply is_gd); first | refine gt ?_ | refine gf ?_ | refine gu ?_)); refine ca (ih (lv.drop sk).length (by rw [List.length_drop]; omega) v1 (lv.drop sk) ((m : Int) - sk) w1 rfl hV1 (by rw [List.length_drop]; omega)) ?_
          rw [show ((m : Int) - (sk : Int)) = ((m - sk : Nat) : Int) by omega]
          rintro _ w2 ⟨hc2, v2, rfl, hP⟩
          have hP := hP [] (by simp)
          rw [pathZ_t (by rw [List.length_drop]; omega)] at hP
          have hdl := down_len (lv.drop sk) (m - sk)
          rw [List.length_drop] at hdl
          obtain ⟨A2, c2, rfl⟩ := hP.form
          (try refine wk ?_)
          refine c_ordZ ([8], []) [] Tru (by kernel_rfl) (by kernel_rfl) (by kernel_rfl) (fun w3 hc3 hs3 => ?_)
          have hR3 := (hR.ch hc2).ch hc3
          have hP3 := hP.ch hc3
          have hc03 : Ch [] w1 w3 := hc2.then hc3
          (first | refine zn 1 rfl ?_ | refine znt 1 rfl ?_ | refine znff 1 rfl ?_); (first | refine zn 3 rfl ?_ | refine znt 3 rfl ?_ | refine znff 3 rfl ?_); (first | refine zn 4 rfl ?_ | refine znt 4 rfl ?_ | refine znff 4 rfl ?_)
          refine zn_cut_hi 5 rfl hR3 rfl rfl rfl (by omega) (by omega) (fun v4 hV4 => ?_)
          rw [Int.toNat_natCast] at hV4
          refine zn1 0 (by kernel_rfl) rfl (fun w4 hG4 => ?_)
          refine wl_buildSlice (parts := []) (vs := []) rfl rfl (by simp) (by omega) (fun w5 ba hba => ?_)
          refine x_wz (.inl (Gr.new stab_tru hba.ch)) rfl ?_
          have hc05 : Ch [] w1 w5 := (hc03.then hG4.ch).then hba.ch
          have hle : w1.heap.size ≤ ba := by rw [hba.at_]; exact (hc03.then hG4.ch).size
          refine zn1 2 (by kernel_rfl) rfl (fun w6 hG6 => ?_)
          refine wl_append_e (en := eH) (n := 32) (base := w1.heap.size) rfl rfl rfl (Blk.ch (show Blk w5 ba [] 30 from hba.blk) hG6.ch (by simp)) hle rfl (((hP3.ch hG4.ch).ch hba.ch).ch hG6.ch) (by rw [List.length_reverse]; omega) (by rw [List.length_reverse]; omega) (fun vv w7 hO7 hch7 => ?_)
          refine x_wz (.inl (Gr.new stab_tru hch7)) rfl ?_
          have hc07 : Ch [] w1 w7 := (hc05.then hG6.ch).then hch7
          have hV7 : (Ty.enc eH).Rd [] w7 v4 (lv.take sk) := ((((hV4.ch hG4.ch).ch hba.ch).ch hG6.ch).ch hch7)
          refine zn1 6 (by kernel_rfl) rfl (fun w8 hG8 => ?_)
          (try ((with_reducible apply is_gd); first | refine gt ?_ | refine gf ?_ | refine gu ?_)); refine ca (rroot_any (lv.take sk).length v4 (lv.take sk) w8 rfl (hV7.ch hG8.ch) (by rw [List.length_take]; omega)) ?_
          rintro _ w9 ⟨rfl, hc9⟩
          refine x_wz (.inl (Gr.new stab_tru hc9)) rfl ?_
          refine zn1 7 (by kernel_rfl) rfl (fun w10 hG10 => ?_)
          refine wl_buildSlice (parts := [(0, .tmp 61)]) (vs := [hv (rootH (lv.take sk)).1]) rfl rfl (by simp [hv, Value.cells, (rootH (lv.take sk)).2]) (by omega) (fun w11 bs hbs => ?_)
          refine x_wz (.inl (Gr.new stab_tru hbs.ch)) rfl ?_
          refine zn1 8 (by kernel_rfl) rfl (fun w12 hG12 => ?_)
          have hch712 : Ch [] w7 w12 := (((hG8.ch.then hc9).then hG10.ch).then hbs.ch).then hG12.ch
          have hO12 := hO7.ch hch712 (by simp)
          refine wl_append (en := eH) (n := 32) (v := vv) (ys := [rootH (lv.take sk)]) rfl rfl (by decide) rfl hO12 (hc07.then hch712).size rfl ((hbs.blk.ch hG12.ch (by simp)).row (n := 32) (o := 0) (ds := [rootH (lv.take sk)].flatMap eH.f) (by simp [hv, Value.cells, List.take_of_length_le, (rootH (lv.take sk)).2])) (by simp; omega) (by simp; omega) (fun v13 w13 hO13 hch13 hat => ?_)
          have hc13 : Ch [] w1 w13 := (hc07.then hch712).trans hch13 (by simp) (fun x hx hm => by
            have := (hO12.lt (k := x) (by simpa using hm)).1
            omega)
          refine x_wz (.inr (by decide)) rfl ?_
          (first | refine zn 9 rfl ?_ | refine znt 9 rfl ?_ | refine znff 9 rfl ?_); (first | refine zn 10 rfl ?_ | refine znt 10 rfl ?_ | refine znff 10 rfl ?_)
          refine wz_done (by kernel_rfl) (fun w14 hG14 => ?_)
          (try refine wk ?_)
          exact out2 rfl ⟨hc13.then hG14.ch, _, rfl, fun S hS => (hO13.ch hG14.ch (by simp)).rd (fun q hq hm => by
            have h1 := (hO13.lt hq).1
            have h2 := hS _ hm
            omega) (by simp; omega)⟩
end Go.Proofs.YtkdbinchlpdkmaaDoor
set_option linter.unusedVariables false
set_option linter.unusedSimpArgs false
namespace Go.Proofs.YtkdbinchlpdkmaaDoor
open Go Go.RowKit Go.Proofs.E
attribute [local irreducible] Go.wpList Go.Code.wp Go.Proofs.E.exec Go.Proofs.E.wpLexG
/-- The sides, from the root down, of the way to where the first m end. -/
def gdF : Nat → Nat → List Hs → Bool → List Hs
  | 0, m, l, b => if b = true then [] else [rootH l]
  | f + 1, m, l, b => if l.length ≤ m then (if b = true then [] else [rootH l]) else if m ≤ splitN l.length then rootH (l.drop (splitN l.length)) :: gdF f m (l.take (splitN l.length)) b else rootH (l.take (splitN l.length)) :: gdF f (m - splitN l.length) (l.drop (splitN l.length)) false
def gdH (m : Nat) (l : List Hs) (b : Bool) : List Hs := gdF l.length m l b
theorem gdF_any : ∀ (f g m : Nat) (l : List Hs) (b : Bool), 1 ≤ m → l.length ≤ f → l.length ≤ g → l.length ≤ 9223372036854775807 → gdF f m l b = gdF g m l b
  | 0, 0, m, l, b, _, _, _, _ => rfl
  | 0, g + 1, m, l, b, hm, h, _, _ => by rw [gdF, gdF, if_pos (by omega : l.length ≤ m)]
  | f + 1, 0, m, l, b, hm, _, h, _ => by rw [gdF, gdF, if_pos (by omega : l.length ≤ m)]
  | f + 1, g + 1, m, l, b, hm, hf, hg, hb => by
    rw [gdF, gdF]
    by_cases h : l.length ≤ m
    · rw [if_pos h, if_pos h]
    · rw [if_neg h, if_neg h]
      have := splitN_lt (n := l.length) (by omega) hb
      by_cases h2 : m ≤ splitN l.length
      · rw [if_pos h2, if_pos h2, gdF_any f g m (l.take _) b hm (by rw [List.length_take]; omega) (by rw [List.length_take]; omega) (by rw [List.length_take]; omega)]
      · rw [if_neg h2, if_neg h2, gdF_any f g (m - splitN l.length) (l.drop _) false (by omega) (by rw [List.length_drop]; omega) (by rw [List.length_drop]; omega) (by rw [List.length_drop]; omega)]
theorem gd_all {m : Nat} {l : List Hs} {b : Bool} (h : l.length ≤ m) : gdH m l b = if b = true then [] else [rootH l] := by
  have : ∀ f, gdF f m l b = if b = true then [] else [rootH l] := by
    intro f
    cases f with
    | zero => rfl
    | succ f => rw [gdF, if_pos h]
  exact this _
theorem gd_left {m : Nat} {l : List Hs} {b : Bool} (hm : 1 ≤ m) (h : m < l.length) (hb : l.length ≤ 1000000000) (h2 : m ≤ splitN l.length) : gdH m l b = rootH (l.drop (splitN l.length)) :: gdH m (l.take (splitN l.length)) b := by
  have := splitN_lt (n := l.length) (by omega) (by omega)
  unfold gdH
  obtain ⟨f, hf⟩ : ∃ f, l.length = f + 1 := ⟨l.length - 1, by omega⟩
  conv => lhs; rw [hf, gdF]
  rw [if_neg (by omega), if_pos h2, gdF_any f _ m (l.take _) b hm (by rw [List.length_take]; omega) (Nat.le_refl _) (by rw [List.length_take]; omega)]
theorem gd_right {m : Nat} {l : List Hs} {b : Bool} (hm : 1 ≤ m) (h : m < l.length) (hb : l.length ≤ 1000000000) (h2 : ¬ m ≤ splitN l.length) : gdH m l b = rootH (l.take (splitN l.length)) :: gdH (m - splitN l.length) (l.drop (splitN l.length)) false := by
  have := splitN_lt (n := l.length) (by omega) (by omega)
  unfold gdH
  obtain ⟨f, hf⟩ : ∃ f, l.length = f + 1 := ⟨l.length - 1, by omega⟩
  conv => lhs; rw [hf, gdF]
  rw [if_neg (by omega), if_neg h2, gdF_any f _ (m - splitN l.length) (l.drop _) false (by omega) (by rw [List.length_drop]; omega) (Nat.le_refl _) (by rw [List.length_drop]; omega)]
theorem gdF_len : ∀ f m l b, (gdF f m l b).length ≤ f + 1
  | 0, m, l, b => by
    rw [gdF]
    split <;> simp
  | f + 1, m, l, b => by
    rw [gdF]
    split
    · split <;> simp
    · split
      · have := gdF_len f m (l.take (splitN l.length)) b
        simp
        omega
      · have := gdF_len f (m - splitN l.length) (l.drop (splitN l.length)) false
        simp
        omega
theorem gd_len (m : Nat) (l : List Hs) (b : Bool) : (gdH m l b).length ≤ l.length + 1 := gdF_len _ m l b
def inG (m : Int) (n : Nat) : Bool := decide (1 ≤ m) && decide (m ≤ n)
def grownZ (l : List Hs) (m : Int) : List Hs := if inG m l.length = true then (gdH m.toNat l true).reverse else []
theorem inG_t {n m : Nat} (h1 : 1 ≤ m) (h : m ≤ n) : inG (m : Int) n = true := by unfold inG; rw [decide_eq_true (by omega : (1 : Int) ≤ (m : Int)), decide_eq_true (by omega : (m : Int) ≤ (n : Int))]; rfl
theorem inG_f {n : Nat} {m : Int} (h : m < 1 ∨ (n : Int) < m) : inG m n = false := by
  unfold inG
  rcases h with h | h
  · rw [decide_eq_false (by omega), Bool.false_and]
  · rw [decide_eq_false (by omega : ¬ m ≤ (n : Int)), Bool.and_false]
theorem grownZ_t {l : List Hs} {m : Nat} (h1 : 1 ≤ m) (h : m ≤ l.length) : grownZ l (m : Int) = (gdH m l true).reverse := by unfold grownZ; rw [inG_t h1 h, Int.toNat_natCast]; rfl
theorem grownZ_f {l : List Hs} {m : Int} (h : inG m l.length = false) : grownZ l m = [] := by unfold grownZ; rw [h]; rfl
end Go.Proofs.YtkdbinchlpdkmaaDoor
set_option linter.unusedVariables false
set_option linter.unusedSimpArgs false
namespace Go.Proofs.YtkdbinchlpdkmaaDoor
open Go Go.RowKit Go.Proofs.E
attribute [local irreducible] Go.wpList Go.Code.wp Go.Proofs.E.exec Go.Proofs.E.wpLexG
set_option maxHeartbeats 16000000 in
theorem rsub_any (N : Nat) : ∀ (v : Value) (lv : List Hs) (m : Nat) (b : Bool) (w : World), lv.length = N → (Ty.enc eH).Rd [] w v lv → lv.length ≤ 1000 → 1 ≤ m → m ≤ lv.length →
    Calls Tryd.prog 80 #[.int .i64 (m : Int), v, .bool b] w (Ret fun v' w' => Ch [] w w' ∧ ∀ S, (∀ x ∈ S, x < w.heap.size) → (Ty.enc eH).Rd S w' v' (gdH m lv b).reverse) := by
  induction N using Nat.strongRecOn with
  | _ N ih =>
  intro v lv m b w hN hR hlen hm1 hml
  refine enter [.int .i64 (m : Int), v, .bool b, undef, undef, undef, undef, undef, undef, undef, undef, undef, undef, undef, undef, undef, undef, undef, undef, undef, undef, undef, undef, undef, undef, undef, undef, undef, undef, undef, undef, undef, undef, undef, undef, undef, undef, undef, undef, undef, undef, undef, undef, undef, undef, undef, undef, undef, undef, undef, undef] Tryd.func80 rfl rfl ?_
  obtain ⟨A, cap, rfl⟩ := hR.form
  (try refine wk ?_)
  refine c_cond rfl (fun h2 => ?_) (fun h2 => ?_)
  · rw [gd_all (by omega)]
    cases b with
    | true =>
      (try refine wk ?_)
      refine c_condb rfl (fun _ => ?_) (fun h => by cases h)
      (try refine wk ?_)
      exact out1 rfl ⟨Ch.refl _ _, fun S hS => Ty.Rd.nil _ _ _ _ _⟩
    | false =>
      (try refine wk ?_)
      refine c_condb rfl (fun h => by cases h) (fun _ => ?_)
      (try refine wk ?_)
      (try ((with_reducible apply is_gd); first | refine gt ?_ | refine gf ?_ | refine gu ?_)); refine ca (rroot_any lv.length _ lv w rfl hR (by omega)) ?_
      rintro _ w1 ⟨rfl, hc1⟩
      refine wl_buildSlice (parts := [(0, .tmp 14)]) (vs := [hv (rootH lv).1]) rfl rfl (by simp [hv, Value.cells, (rootH lv).2]) (by omega) (fun w2 bs hbs => ?_)
      have z1 := hc1.size
      have ebs := hbs.at_
      (try refine wk ?_)
      refine out1 rfl ⟨hc1.then hbs.ch, fun S hS => ?_⟩
      have hf : (if false = true then ([] : List Hs) else [rootH lv]).reverse = [rootH lv] := rfl
      rw [hf]
      exact hbs.blk.rdP (m := 1) (fun hm => by have := hS _ hm; omega) (by simp [hv, Value.cells, List.take_of_length_le, (rootH lv).2]) rfl (by omega) (by omega)
  · obtain ⟨hk0, hk1⟩ := splitN_lt (n := lv.length) (by omega) (by omega)
    (try refine wk ?_)
    (try ((with_reducible apply is_gd); first | refine gt ?_ | refine gf ?_ | refine gu ?_)); refine ca (rsplit_any (lv.length : Int) (by omega) w) ?_
    rintro _ w1 ⟨rfl, hw1⟩
    subst hw1
    rw [splitZ_nat]
    by_cases hm : m ≤ splitN lv.length
    · have hdo := gd_left (b := b) hm1 (by omega) (by omega) hm
      rw [hdo, List.reverse_cons]
      generalize splitN lv.length = sk at *
      have hdl := gd_len m (lv.take sk) b
      rw [List.length_take] at hdl
      (try refine wk ?_)
      refine c_cond rfl (fun _ => ?_) (fun h => absurd (by omega : (m : Int) ≤ sk) h)
      (try refine wk ?_)
      refine c_ordZ ([13], []) [] Tru (by kernel_rfl) (by kernel_rfl) (by kernel_rfl) (fun w3 hc3 hs3 => ?_)
      have hR3 := hR.ch hc3
      (first | refine zn 1 rfl ?_ | refine znt 1 rfl ?_ | refine znff 1 rfl ?_); (first | refine zn 2 rfl ?_ | refine znt 2 rfl ?_ | refine znff 2 rfl ?_); (first | refine zn 3 rfl ?_ | refine znt 3 rfl ?_ | refine znff 3 rfl ?_)
      refine zn_cut_hi 4 rfl hR3 rfl rfl rfl (by omega) (by omega) (fun v4 hV4 => ?_)
      rw [Int.toNat_natCast] at hV4
      (first | refine zn 5 rfl ?_ | refine znt 5 rfl ?_ | refine znff 5 rfl ?_); (first | refine zn 8 rfl ?_ | refine znt 8 rfl ?_ | refine znff 8 rfl ?_); (first | refine zn 9 rfl ?_ | refine znt 9 rfl ?_ | refine znff 9 rfl ?_)
      refine zn_cut_lo 10 rfl hR3 rfl rfl rfl (by omega) (by omega) (fun v5 hV5 => ?_)
      rw [Int.toNat_natCast] at hV5
      refine zn2 0 6 (by kernel_rfl) rfl rfl (fun w4 hG4 => ?_) (fun w4 hG4 => ?_)
      · refine wl_buildSlice (parts := []) (vs := []) rfl rfl (by simp) (by omega) (fun w5 ba hba => ?_)
        refine x_wz (.inl (Gr.new stab_tru hba.ch)) rfl ?_
        have hle : w1.heap.size ≤ ba := by rw [hba.at_]; exact (hc3.then hG4.ch).size
        refine zn1 6 (by kernel_rfl) rfl (fun w6 hG6 => ?_)
        (try ((with_reducible apply is_gd); first | refine gt ?_ | refine gf ?_ | refine gu ?_)); refine ca (ih (lv.take sk).length (by rw [List.length_take]; omega) v4 (lv.take sk) m b w6 rfl (hV4.ch ((hG4.ch.then hba.ch).then hG6.ch)) (by rw [List.length_take]; omega) (by omega) (by rw [List.length_take]; omega)) ?_
        rintro v6 w7 ⟨hc6, hP⟩
        have hP := hP [] (by simp)
        obtain ⟨A6, c6, rfl⟩ := hP.form
        refine x_wz (.inl (Gr.new stab_tru hc6)) rfl ?_
        have hBa := (Blk.ch (show Blk w5 ba [] 30 from hba.blk) hG6.ch (by simp)).ch hc6 (by simp)
        have hcX : Ch [] w1 w7 := (((hc3.then hG4.ch).then hba.ch).then hG6.ch).then hc6
        have hV5 := (((hV5.ch hG4.ch).ch hba.ch).ch hG6.ch).ch hc6
        refine zn1 7 (by kernel_rfl) rfl (fun w8 hG8 => ?_)
        refine wl_append_e (en := eH) (n := 32) (base := w1.heap.size) rfl rfl rfl (hBa.ch hG8.ch (by simp)) hle rfl (hP.ch hG8.ch) (by rw [List.length_reverse]; omega) (by rw [List.length_reverse]; omega) (fun vv w9 hO9 hch9 => ?_)
        refine x_wz (.inl (Gr.new stab_tru hch9)) rfl ?_
        have hc19 : Ch [] w1 w9 := (hcX.then hG8.ch).then hch9
        have hV9 : (Ty.enc eH).Rd [] w9 v5 (lv.drop sk) := (hV5.ch (hG8.ch.then hch9))
        refine zn1 11 (by kernel_rfl) rfl (fun w10 hG10 => ?_)
        (try ((with_reducible apply is_gd); first | refine gt ?_ | refine gf ?_ | refine gu ?_)); refine ca (rroot_any (lv.drop sk).length v5 (lv.drop sk) w10 rfl (hV9.ch hG10.ch) (by rw [List.length_drop]; omega)) ?_
        rintro _ w11 ⟨rfl, hc11⟩
        refine x_wz (.inl (Gr.new stab_tru hc11)) rfl ?_
        refine zn1 12 (by kernel_rfl) rfl (fun w12 hG12 => ?_)
        refine wl_buildSlice (parts := [(0, .tmp 33)]) (vs := [hv (rootH (lv.drop sk)).1]) rfl rfl (by simp [hv, Value.cells, (rootH (lv.drop sk)).2]) (by omega) (fun w13 bs hbs => ?_)
        refine x_wz (.inl (Gr.new stab_tru hbs.ch)) rfl ?_
        refine zn1 13 (by kernel_rfl) rfl (fun w14 hG14 => ?_)
        have hch914 : Ch [] w9 w14 := (((hG10.ch.then hc11).then hG12.ch).then hbs.ch).then hG14.ch
        have hO14 := hO9.ch hch914 (by simp)
        refine wl_append (en := eH) (n := 32) (v := vv) (ys := [rootH (lv.drop sk)]) rfl rfl (by decide) rfl hO14 (hc19.then hch914).size rfl ((hbs.blk.ch hG14.ch (by simp)).row (n := 32) (o := 0) (ds := [rootH (lv.drop sk)].flatMap eH.f) (by simp [hv, Value.cells, List.take_of_length_le, (rootH (lv.drop sk)).2])) (by simp; omega) (by simp; omega) (fun v15 w15 hO15 hch15 hat => ?_)
        have hc15 : Ch [] w1 w15 := (hc19.then hch914).trans hch15 (by simp) (fun x hx hm => by
          have := (hO14.lt (k := x) (by simpa using hm)).1
          omega)
        refine x_wz (.inr (by decide)) rfl ?_
        (first | refine zn 14 rfl ?_ | refine znt 14 rfl ?_ | refine znff 14 rfl ?_)
        refine wz_done (by kernel_rfl) (fun w16 hG16 => ?_)
        (try refine wk ?_)
        exact out1 rfl ⟨hc15.then hG16.ch, fun S hS => (hO15.ch hG16.ch (by simp)).rd (fun q hq hm => by
          have h1 := (hO15.lt hq).1
          have h2 := hS _ hm
          omega) (by simp; omega)⟩
      · (try ((with_reducible apply is_gd); first | refine gt ?_ | refine gf ?_ | refine gu ?_)); refine ca (ih (lv.take sk).length (by rw [List.length_take]; omega) v4 (lv.take sk) m b w4 rfl (hV4.ch (hG4.ch)) (by rw [List.length_take]; omega) (by omega) (by rw [List.length_take]; omega)) ?_
        rintro v6 w5 ⟨hc6, hP⟩
        have hP := hP [] (by simp)
        obtain ⟨A6, c6, rfl⟩ := hP.form
        refine x_wz (.inl (Gr.new stab_tru hc6)) rfl ?_
        refine zn1 0 (by kernel_rfl) rfl (fun w6 hG6 => ?_)
        refine wl_buildSlice (parts := []) (vs := []) rfl rfl (by simp) (by omega) (fun w7 ba hba => ?_)
        refine x_wz (.inl (Gr.new stab_tru hba.ch)) rfl ?_
        have hle : w1.heap.size ≤ ba := by rw [hba.at_]; exact (((hc3.then hG4.ch).then hc6).then hG6.ch).size
        have hBa : Blk w7 ba [] 30 := hba.blk
        have hP := (hP.ch hG6.ch).ch hba.ch
        have hcX : Ch [] w1 w7 := (((hc3.then hG4.ch).then hc6).then hG6.ch).then hba.ch
        have hV5 := (((hV5.ch hG4.ch).ch hc6).ch hG6.ch).ch hba.ch
        refine zn1 7 (by kernel_rfl) rfl (fun w8 hG8 => ?_)
        refine wl_append_e (en := eH) (n := 32) (base := w1.heap.size) rfl rfl rfl (hBa.ch hG8.ch (by simp)) hle rfl (hP.ch hG8.ch) (by rw [List.length_reverse]; omega) (by rw [List.length_reverse]; omega) (fun vv w9 hO9 hch9 => ?_)
        refine x_wz (.inl (Gr.new stab_tru hch9)) rfl ?_
        have hc19 : Ch [] w1 w9 := (hcX.then hG8.ch).then hch9
        have hV9 : (Ty.enc eH).Rd [] w9 v5 (lv.drop sk) := (hV5.ch (hG8.ch.then hch9))
        refine zn1 11 (by kernel_rfl) rfl (fun w10 hG10 => ?_)
        (try ((with_reducible apply is_gd); first | refine gt ?_ | refine gf ?_ | refine gu ?_)); refine ca (rroot_any (lv.drop sk).length v5 (lv.drop sk) w10 rfl (hV9.ch hG10.ch) (by rw [List.length_drop]; omega)) ?_
        rintro _ w11 ⟨rfl, hc11⟩
        refine x_wz (.inl (Gr.new stab_tru hc11)) rfl ?_
        refine zn1 12 (by kernel_rfl) rfl (fun w12 hG12 => ?_)
        refine wl_buildSlice (parts := [(0, .tmp 33)]) (vs := [hv (rootH (lv.drop sk)).1]) rfl rfl (by simp [hv, Value.cells, (rootH (lv.drop sk)).2]) (by omega) (fun w13 bs hbs => ?_)
        refine x_wz (.inl (Gr.new stab_tru hbs.ch)) rfl ?_
        refine zn1 13 (by kernel_rfl) rfl (fun w14 hG14 => ?_)
        have hch914 : Ch [] w9 w14 := (((hG10.ch.then hc11).then hG12.ch).then hbs.ch).then hG14.ch
        have hO14 := hO9.ch hch914 (by simp)
        refine wl_append (en := eH) (n := 32) (v := vv) (ys := [rootH (lv.drop sk)]) rfl rfl (by decide) rfl hO14 (hc19.then hch914).size rfl ((hbs.blk.ch hG14.ch (by simp)).row (n := 32) (o := 0) (ds := [rootH (lv.drop sk)].flatMap eH.f) (by simp [hv, Value.cells, List.take_of_length_le, (rootH (lv.drop sk)).2])) (by simp; omega) (by simp; omega) (fun v15 w15 hO15 hch15 hat => ?_)
        have hc15 : Ch [] w1 w15 := (hc19.then hch914).trans hch15 (by simp) (fun x hx hm => by
          have := (hO14.lt (k := x) (by simpa using hm)).1
          omega)
        refine x_wz (.inr (by decide)) rfl ?_
        (first | refine zn 14 rfl ?_ | refine znt 14 rfl ?_ | refine znff 14 rfl ?_)
        refine wz_done (by kernel_rfl) (fun w16 hG16 => ?_)
        (try refine wk ?_)
        exact out1 rfl ⟨hc15.then hG16.ch, fun S hS => (hO15.ch hG16.ch (by simp)).rd (fun q hq hm => by
          have h1 := (hO15.lt hq).1
          have h2 := hS _ hm
          omega) (by simp; omega)⟩
    · have hdo := gd_right (b := b) hm1 (by omega) (by omega) hm
      rw [hdo, List.reverse_cons]
      generalize splitN lv.length = sk at *
      have hdl := gd_len (m - sk) (lv.drop sk) false
      rw [List.length_drop] at hdl
      (try refine wk ?_)
      refine c_cond rfl (fun h => absurd h (by omega)) (fun _ => ?_)
      (try refine wk ?_)
      refine c_ordZ ([14], []) [] Tru (by kernel_rfl) (by kernel_rfl) (by kernel_rfl) (fun w3 hc3 hs3 => ?_)
      have hR3 := hR.ch hc3
      (first | refine zn 1 rfl ?_ | refine znt 1 rfl ?_ | refine znff 1 rfl ?_); (first | refine zn 2 rfl ?_ | refine znt 2 rfl ?_ | refine znff 2 rfl ?_); (first | refine zn 3 rfl ?_ | refine znt 3 rfl ?_ | refine znff 3 rfl ?_); (first | refine zn 4 rfl ?_ | refine znt 4 rfl ?_ | refine znff 4 rfl ?_); (first | refine zn 5 rfl ?_ | refine znt 5 rfl ?_ | refine znff 5 rfl ?_)
      refine zn_cut_lo 6 rfl hR3 rfl rfl rfl (by omega) (by omega) (fun v4 hV4 => ?_)
      rw [Int.toNat_natCast] at hV4
      (first | refine zn 9 rfl ?_ | refine znt 9 rfl ?_ | refine znff 9 rfl ?_); (first | refine zn 10 rfl ?_ | refine znt 10 rfl ?_ | refine znff 10 rfl ?_)
      refine zn_cut_hi 11 rfl hR3 rfl rfl rfl (by omega) (by omega) (fun v5 hV5 => ?_)
      rw [Int.toNat_natCast] at hV5
      rw [show ((m : Int) - (sk : Int)) = ((m - sk : Nat) : Int) by omega]
      refine zn2 0 7 (by kernel_rfl) rfl rfl (fun w4 hG4 => ?_) (fun w4 hG4 => ?_)
      · refine wl_buildSlice (parts := []) (vs := []) rfl rfl (by simp) (by omega) (fun w5 ba hba => ?_)
        refine x_wz (.inl (Gr.new stab_tru hba.ch)) rfl ?_
        have hle : w1.heap.size ≤ ba := by rw [hba.at_]; exact (hc3.then hG4.ch).size
        refine zn1 7 (by kernel_rfl) rfl (fun w6 hG6 => ?_)
        (try ((with_reducible apply is_gd); first | refine gt ?_ | refine gf ?_ | refine gu ?_)); refine ca (ih (lv.drop sk).length (by rw [List.length_drop]; omega) v4 (lv.drop sk) (m - sk) false w6 rfl (hV4.ch ((hG4.ch.then hba.ch).then hG6.ch)) (by rw [List.length_drop]; omega) (by omega) (by rw [List.length_drop]; omega)) ?_
        rintro v6 w7 ⟨hc6, hP⟩
        have hP := hP [] (by simp)
        obtain ⟨A6, c6, rfl⟩ := hP.form
        refine x_wz (.inl (Gr.new stab_tru hc6)) rfl ?_
        have hBa := (Blk.ch (show Blk w5 ba [] 30 from hba.blk) hG6.ch (by simp)).ch hc6 (by simp)
        have hcX : Ch [] w1 w7 := (((hc3.then hG4.ch).then hba.ch).then hG6.ch).then hc6
        have hV5 := (((hV5.ch hG4.ch).ch hba.ch).ch hG6.ch).ch hc6
        refine zn1 8 (by kernel_rfl) rfl (fun w8 hG8 => ?_)
        refine wl_append_e (en := eH) (n := 32) (base := w1.heap.size) rfl rfl rfl (hBa.ch hG8.ch (by simp)) hle rfl (hP.ch hG8.ch) (by rw [List.length_reverse]; omega) (by rw [List.length_reverse]; omega) (fun vv w9 hO9 hch9 => ?_)
        refine x_wz (.inl (Gr.new stab_tru hch9)) rfl ?_
        have hc19 : Ch [] w1 w9 := (hcX.then hG8.ch).then hch9
        have hV9 : (Ty.enc eH).Rd [] w9 v5 (lv.take sk) := (hV5.ch (hG8.ch.then hch9))
        refine zn1 12 (by kernel_rfl) rfl (fun w10 hG10 => ?_)
        (try ((with_reducible apply is_gd); first | refine gt ?_ | refine gf ?_ | refine gu ?_)); refine ca (rroot_any (lv.take sk).length v5 (lv.take sk) w10 rfl (hV9.ch hG10.ch) (by rw [List.length_take]; omega)) ?_
        rintro _ w11 ⟨rfl, hc11⟩
        refine x_wz (.inl (Gr.new stab_tru hc11)) rfl ?_
        refine zn1 13 (by kernel_rfl) rfl (fun w12 hG12 => ?_)
        refine wl_buildSlice (parts := [(0, .tmp 48)]) (vs := [hv (rootH (lv.take sk)).1]) rfl rfl (by simp [hv, Value.cells, (rootH (lv.take sk)).2]) (by omega) (fun w13 bs hbs => ?_)
        refine x_wz (.inl (Gr.new stab_tru hbs.ch)) rfl ?_
        refine zn1 14 (by kernel_rfl) rfl (fun w14 hG14 => ?_)
        have hch914 : Ch [] w9 w14 := (((hG10.ch.then hc11).then hG12.ch).then hbs.ch).then hG14.ch
        have hO14 := hO9.ch hch914 (by simp)
        refine wl_append (en := eH) (n := 32) (v := vv) (ys := [rootH (lv.take sk)]) rfl rfl (by decide) rfl hO14 (hc19.then hch914).size rfl ((hbs.blk.ch hG14.ch (by simp)).row (n := 32) (o := 0) (ds := [rootH (lv.take sk)].flatMap eH.f) (by simp [hv, Value.cells, List.take_of_length_le, (rootH (lv.take sk)).2])) (by simp; omega) (by simp; omega) (fun v15 w15 hO15 hch15 hat => ?_)
        have hc15 : Ch [] w1 w15 := (hc19.then hch914).trans hch15 (by simp) (fun x hx hm => by
          have := (hO14.lt (k := x) (by simpa using hm)).1
          omega)
        refine x_wz (.inr (by decide)) rfl ?_
        (first | refine zn 15 rfl ?_ | refine znt 15 rfl ?_ | refine znff 15 rfl ?_)
        refine wz_done (by kernel_rfl) (fun w16 hG16 => ?_)
        (try refine wk ?_)
        exact out1 rfl ⟨hc15.then hG16.ch, fun S hS => (hO15.ch hG16.ch (by simp)).rd (fun q hq hm => by
          have h1 := (hO15.lt hq).1
          have h2 := hS _ hm
          omega) (by simp; omega)⟩
      · (try ((with_reducible apply is_gd); first | refine gt ?_ | refine gf ?_ | refine gu ?_)); refine ca (ih (lv.drop sk).length (by rw [List.length_drop]; omega) v4 (lv.drop sk) (m - sk) false w4 rfl (hV4.ch (hG4.ch)) (by rw [List.length_drop]; omega) (by omega) (by rw [List.length_drop]; omega)) ?_
        rintro v6 w5 ⟨hc6, hP⟩
        have hP := hP [] (by simp)
        obtain ⟨A6, c6, rfl⟩ := hP.form
        refine x_wz (.inl (Gr.new stab_tru hc6)) rfl ?_
        refine zn1 0 (by kernel_rfl) rfl (fun w6 hG6 => ?_)
        refine wl_buildSlice (parts := []) (vs := []) rfl rfl (by simp) (by omega) (fun w7 ba hba => ?_)
        refine x_wz (.inl (Gr.new stab_tru hba.ch)) rfl ?_
        have hle : w1.heap.size ≤ ba := by rw [hba.at_]; exact (((hc3.then hG4.ch).then hc6).then hG6.ch).size
        have hBa : Blk w7 ba [] 30 := hba.blk
        have hP := (hP.ch hG6.ch).ch hba.ch
        have hcX : Ch [] w1 w7 := (((hc3.then hG4.ch).then hc6).then hG6.ch).then hba.ch
        have hV5 := (((hV5.ch hG4.ch).ch hc6).ch hG6.ch).ch hba.ch
        refine zn1 8 (by kernel_rfl) rfl (fun w8 hG8 => ?_)
        refine wl_append_e (en := eH) (n := 32) (base := w1.heap.size) rfl rfl rfl (hBa.ch hG8.ch (by simp)) hle rfl (hP.ch hG8.ch) (by rw [List.length_reverse]; omega) (by rw [List.length_reverse]; omega) (fun vv w9 hO9 hch9 => ?_)
        refine x_wz (.inl (Gr.new stab_tru hch9)) rfl ?_
        have hc19 : Ch [] w1 w9 := (hcX.then hG8.ch).then hch9
        have hV9 : (Ty.enc eH).Rd [] w9 v5 (lv.take sk) := (hV5.ch (hG8.ch.then hch9))
        refine zn1 12 (by kernel_rfl) rfl (fun w10 hG10 => ?_)
        (try ((with_reducible apply is_gd); first | refine gt ?_ | refine gf ?_ | refine gu ?_)); refine ca (rroot_any (lv.take sk).length v5 (lv.take sk) w10 rfl (hV9.ch hG10.ch) (by rw [List.length_take]; omega)) ?_
        rintro _ w11 ⟨rfl, hc11⟩
        refine x_wz (.inl (Gr.new stab_tru hc11)) rfl ?_
        refine zn1 13 (by kernel_rfl) rfl (fun w12 hG12 => ?_)
        refine wl_buildSlice (parts := [(0, .tmp 48)]) (vs := [hv (rootH (lv.take sk)).1]) rfl rfl (by simp [hv, Value.cells, (rootH (lv.take sk)).2]) (by omega) (fun w13 bs hbs => ?_)
        refine x_wz (.inl (Gr.new stab_tru hbs.ch)) rfl ?_
        refine zn1 14 (by kernel_rfl) rfl (fun w14 hG14 => ?_)
        have hch914 : Ch [] w9 w14 := (((hG10.ch.then hc11).then hG12.ch).then hbs.ch).then hG14.ch
        have hO14 := hO9.ch hch914 (by simp)
        refine wl_append (en := eH) (n := 32) (v := vv) (ys := [rootH (lv.take sk)]) rfl rfl (by decide) rfl hO14 (hc19.then hch914).size rfl ((hbs.blk.ch hG14.ch (by simp)).row (n := 32) (o := 0) (ds := [rootH (lv.take sk)].flatMap eH.f) (by simp [hv, Value.cells, List.take_of_length_le, (rootH (lv.take sk)).2])) (by simp; omega) (by simp; omega) (fun v15 w15 hO15 hch15 hat => ?_)
        have hc15 : Ch [] w1 w15 := (hc19.then hch914).trans hch15 (by simp) (fun x hx hm => by
          have := (hO14.lt (k := x) (by simpa using hm)).1
          omega)
        refine x_wz (.inr (by decide)) rfl ?_
        (first | refine zn 15 rfl ?_ | refine znt 15 rfl ?_ | refine znff 15 rfl ?_)
        refine wz_done (by kernel_rfl) (fun w16 hG16 => ?_)
        (try refine wk ?_)
        exact out1 rfl ⟨hc15.then hG16.ch, fun S hS => (hO15.ch hG16.ch (by simp)).rd (fun q hq hm => by
          have h1 := (hO15.lt hq).1
          have h2 := hS _ hm
          omega) (by simp; omega)⟩
set_option maxHeartbeats 8000000 in
theorem rgrown_any (v : Value) (lv : List Hs) (m0 : Int) (w : World) (hR : (Ty.enc eH).Rd [] w v lv) (hlen : lv.length ≤ 1000) :
    Calls Tryd.prog 36 #[v, .int .i64 m0] w (Ret fun u w' => Ch [] w w' ∧ ∃ v', u = .tuple #[v', .bool (inG m0 lv.length)] ∧ ∀ S, (∀ x ∈ S, x < w.heap.size) → (Ty.enc eH).Rd S w' v' (grownZ lv m0)) := by
  refine enter [v, .int .i64 m0, undef, undef, undef, undef, undef, undef, undef, undef, undef, undef, undef, undef, undef, undef, undef] Tryd.func36 rfl rfl ?_
  obtain ⟨A, cap, rfl⟩ := hR.form
  by_cases h0 : m0 < 1
  · (try refine wk ?_)
    refine c_condb rfl (fun _ => ?_) (fun h => by cases h)
    (try refine wk ?_)
    have hz : inG m0 lv.length = false := inG_f (by omega)
    refine out2 rfl ⟨Ch.refl _ _, _, by rw [hz]; rfl, fun S hS => ?_⟩
    rw [grownZ_f hz]
    exact Ty.Rd.nil _ _ _ _ _
  · by_cases h1 : (lv.length : Int) < m0
    · (try refine wk ?_)
      refine c_cond rfl (fun _ => ?_) (fun h => absurd h1 h)
      (try refine wk ?_)
      have hz : inG m0 lv.length = false := inG_f (by omega)
      refine out2 rfl ⟨Ch.refl _ _, _, by rw [hz]; rfl, fun S hS => ?_⟩
      rw [grownZ_f hz]
      exact Ty.Rd.nil _ _ _ _ _
    · obtain ⟨m, rfl⟩ := Int.eq_ofNat_of_zero_le (by omega : 0 ≤ m0)
      rw [grownZ_t (by omega) (by omega), inG_t (by omega) (by omega)]
      (try refine wk ?_)
      refine c_cond rfl (fun h => absurd h h1) (fun _ => ?_)
      (try refine wk ?_)
      (try ((with_reducible apply is_gd); first | refine gt ?_ | refine gf ?_ | refine gu ?_)); refine ca (rsub_any lv.length _ lv m true w rfl hR hlen (by omega) (by omega)) ?_
      rintro v1 w1 ⟨hc1, hP⟩
      (try refine wk ?_)
      exact out2 rfl ⟨hc1, _, rfl, hP⟩
end Go.Proofs.YtkdbinchlpdkmaaDoor

/- Walks: the path of a leaf, the program's and the reference's.
   Walks: the path of a leaf, the reference's.
   Walks: what shows that leaves have grown of the first of them, the program's and the reference's.
   Walks: what shows that leaves have grown of the first of them, the reference's. -/
import Derived.Test.YtkdbinchlpdkmaaDoorQClashTops18
set_option linter.unusedVariables false
set_option linter.unusedSimpArgs false
namespace Go.Proofs.E
open Go Go.RowKit
section
variable {P : Program} {ops : Array Oper} {Q : Exit → Act → World → Prop} {rest : List Oper} {l : List Value} {w w0 : World} {op : Op} {T : TypeId} {pos : String} {after : Array Edge}
variable {α : Type} {ty : Ty α} {S : List Nat} {d : Nat} {x : Operand} {t e : TypeId} {z : Value} {m by_ : Nat} [hu : Und P t (.slice e)] [hi : Inf P e z m by_] {v : Value} {xs : List α}
include hu hi
/-! Cuts of what is read in another world. -/
end
end Go.Proofs.E
namespace Go.Proofs.YtkdbinchlpdkmaaDoor
open Go Go.RowKit Go.Proofs.E
attribute [local irreducible] Go.wpList Go.Code.wp Go.Proofs.E.exec Go.Proofs.E.wpLexG
/-- The other sides of a leaf's way, from the root down. -/
def downF : Nat → List Hs → Nat → List Hs
  | 0, _, _ => []
  | f + 1, l, i => if l.length ≤ 1 then [] else if i < splitN l.length then rootH (l.drop (splitN l.length)) :: downF f (l.take (splitN l.length)) i else rootH (l.take (splitN l.length)) :: downF f (l.drop (splitN l.length)) (i - splitN l.length)
def downH (l : List Hs) (i : Nat) : List Hs := downF l.length l i
theorem downF_any : ∀ (f g : Nat) (l : List Hs) (i : Nat), l.length ≤ f → l.length ≤ g → l.length ≤ 9223372036854775807 → downF f l i = downF g l i
  | 0, 0, l, i, _, _, _ => rfl
  | 0, g + 1, l, i, h, _, _ => by rw [downF, downF, if_pos (by omega)]
  | f + 1, 0, l, i, _, h, _ => by rw [downF, downF, if_pos (by omega)]
  | f + 1, g + 1, l, i, hf, hg, hb => by
    rw [downF, downF]
    by_cases h : l.length ≤ 1
    · rw [if_pos h, if_pos h]
    · rw [if_neg h, if_neg h]
      have := splitN_lt (n := l.length) (by omega) hb
      rw [downF_any f g (l.take _) i (by rw [List.length_take]; omega) (by rw [List.length_take]; omega) (by rw [List.length_take]; omega)]
      rw [downF_any f g (l.drop _) _ (by rw [List.length_drop]; omega) (by rw [List.length_drop]; omega) (by rw [List.length_drop]; omega)]
theorem down_one {l : List Hs} {i : Nat} (h : l.length ≤ 1) : downH l i = [] := by
  have : ∀ f, downF f l i = [] := by
    intro f
    cases f with
    | zero => rfl
    | succ f => rw [downF, if_pos h]
  exact this _
theorem down_left {l : List Hs} {i : Nat} (h2 : 2 ≤ l.length) (hb : l.length ≤ 1000000000) (hi : i < splitN l.length) : downH l i = rootH (l.drop (splitN l.length)) :: downH (l.take (splitN l.length)) i := by
  have := splitN_lt (n := l.length) h2 (by omega)
  unfold downH
  obtain ⟨f, hf⟩ : ∃ f, l.length = f + 1 := ⟨l.length - 1, by omega⟩
  conv => lhs; rw [hf, downF]
  rw [if_neg (by omega), if_pos hi, downF_any f _ (l.take _) i (by rw [List.length_take]; omega) (Nat.le_refl _) (by rw [List.length_take]; omega)]
theorem down_right {l : List Hs} {i : Nat} (h2 : 2 ≤ l.length) (hb : l.length ≤ 1000000000) (hi : ¬ i < splitN l.length) : downH l i = rootH (l.take (splitN l.length)) :: downH (l.drop (splitN l.length)) (i - splitN l.length) := by
  have := splitN_lt (n := l.length) h2 (by omega)
  unfold downH
  obtain ⟨f, hf⟩ : ∃ f, l.length = f + 1 := ⟨l.length - 1, by omega⟩
  conv => lhs; rw [hf, downF]
  rw [if_neg (by omega), if_neg hi, downF_any f _ (l.drop _) _ (by rw [List.length_drop]; omega) (Nat.le_refl _) (by rw [List.length_drop]; omega)]
theorem downF_len : ∀ f l i, (downF f l i).length ≤ f
  | 0, _, _ => Nat.le_refl _
  | f + 1, l, i => by
    rw [downF]
    split
    · simp
    · split
      · have := downF_len f (l.take (splitN l.length)) i
        simp
        omega
      · have := downF_len f (l.drop (splitN l.length)) (i - splitN l.length)
        simp
        omega
theorem down_len (l : List Hs) (i : Nat) : (downH l i).length ≤ l.length := downF_len _ l i
def inZ (i : Int) (n : Nat) : Bool := decide (0 ≤ i) && decide (i < n)
def pathZ (l : List Hs) (i : Int) : List Hs := if inZ i l.length = true then (downH l i.toNat).reverse else []
end Go.Proofs.YtkdbinchlpdkmaaDoor
set_option linter.unusedVariables false
set_option linter.unusedSimpArgs false
namespace Go.Proofs.YtkdbinchlpdkmaaDoor
open Go Go.RowKit Go.Proofs.E
attribute [local irreducible] Go.wpList Go.Code.wp Go.Proofs.E.exec Go.Proofs.E.wpLexG
theorem inZ_t {n m : Nat} (h : m < n) : inZ (m : Int) n = true := by unfold inZ; rw [decide_eq_true (by omega : (0 : Int) ≤ (m : Int)), decide_eq_true (by omega : (m : Int) < (n : Int))]; rfl
theorem pathZ_t {l : List Hs} {m : Nat} (h : m < l.length) : pathZ l (m : Int) = (downH l m).reverse := by unfold pathZ; rw [inZ_t h, Int.toNat_natCast]; rfl
set_option maxHeartbeats 8000000 in
theorem rpath_any (N : Nat) : ∀ (v : Value) (lv : List Hs) (i : Int) (w : World), lv.length = N → (Ty.enc eH).Rd [] w v lv → lv.length ≤ 1000 →
    Calls Tryd.prog 15 #[v, .int .i64 i] w (Ret fun u w' => Ch [] w w' ∧ ∃ v', u = .tuple #[v', .bool (inZ i lv.length)] ∧ ∀ S, (∀ x ∈ S, x < w.heap.size) → (Ty.enc eH).Rd S w' v' (pathZ lv i)) := by
  induction N using Nat.strongRecOn with
  | _ N ih =>
  intro v lv i w hN hR hlen
  refine enter [v, .int .i64 i, undef, undef, undef, undef, undef, undef, undef, undef, undef, undef, undef, undef, undef, undef, undef, undef, undef, undef, undef, undef, undef, undef, undef, undef, undef, undef, undef, undef, undef, undef, undef, undef, undef, undef, undef, undef, undef, undef, undef, undef, undef, undef, undef, undef, undef, undef, undef, undef, undef, undef, undef, undef, undef, undef, undef, undef, undef, undef, undef, undef, undef, undef] Tryd.func15 rfl rfl ?_
  obtain ⟨A, cap, rfl⟩ := hR.form
  by_cases h0 : i < 0
  · (try refine wk ?_)
    refine c_condb rfl (fun _ => ?_) (fun h => by cases h)
    (try refine wk ?_)
    have hz : inZ i lv.length = false := by unfold inZ; rw [decide_eq_false (by omega)]; rfl
    refine out2 rfl ⟨Ch.refl _ _, _, by rw [hz]; rfl, fun S hS => ?_⟩
    unfold pathZ
    rw [hz]
    exact Ty.Rd.nil _ _ _ _ _
  · by_cases h1 : (lv.length : Int) ≤ i
    · (try refine wk ?_)
      refine c_cond rfl (fun _ => ?_) (fun h => absurd h1 h)
      (try refine wk ?_)
      have hz : inZ i lv.length = false := by unfold inZ; rw [decide_eq_false (by omega : ¬ i < (lv.length : Int)), Bool.and_false]
      refine out2 rfl ⟨Ch.refl _ _, _, by rw [hz]; rfl, fun S hS => ?_⟩
      unfold pathZ
      rw [hz]
      exact Ty.Rd.nil _ _ _ _ _
    · obtain ⟨m, rfl⟩ := Int.eq_ofNat_of_zero_le (by omega : 0 ≤ i)
      rw [pathZ_t (by omega), inZ_t (by omega)]
      (try refine wk ?_)
      refine c_cond rfl (fun h => absurd h h1) (fun _ => ?_)
      (try refine wk ?_)
      refine c_cond rfl (fun h2 => ?_) (fun h2 => ?_)
      · (try refine wk ?_)
        refine out2 rfl ⟨Ch.refl _ _, _, rfl, fun S hS => ?_⟩
        rw [down_one (by omega)]
        exact Ty.Rd.nil _ _ _ _ _
      · obtain ⟨hk0, hk1⟩ := splitN_lt (n := lv.length) (by omega) (by omega)
        (try refine wk ?_)
        (try ((with_reducible apply is_gd); first | refine gt ?_ | refine gf ?_ | refine gu ?_)); refine ca (rsplit_any (lv.length : Int) (by omega) w) ?_
        rintro _ w1 ⟨rfl, hw1⟩
        subst hw1
        rw [splitZ_nat]
        by_cases hm : m < splitN lv.length
        · have hdo := down_left (l := lv) (by omega) (by omega) hm
          rw [hdo, List.reverse_cons]
          generalize splitN lv.length = sk at *
          (try refine wk ?_)
          refine c_cond rfl (fun _ => ?_) (fun h => absurd (by omega : (m : Int) < sk) h)
          (try refine wk ?_)
          refine wl_cut_hi rfl hR rfl rfl (by omega) (by omega) (fun v1 hV1 => ?_)
          rw [Int.toNat_natCast] at hV1
          (try refine wk ?_)
          (try ((with_reducible apply is_gd); first | refine gt ?_ | refine gf ?_ | refine gu ?_)); refine ca (ih (lv.take sk).length (by rw [List.length_take]; omega) v1 (lv.take sk) (m : Int) w1 rfl hV1 (by rw [List.length_take]; omega)) ?_
          rintro _ w2 ⟨hc2, v2, rfl, hP⟩
          have hP := hP [] (by simp)
          rw [pathZ_t (by rw [List.length_take]; omega)] at hP
          have hdl := down_len (lv.take sk) m
          rw [List.length_take] at hdl
          obtain ⟨A2, c2, rfl⟩ := hP.form
          (try refine wk ?_)
          refine c_ordZ ([8], []) [] Tru (by kernel_rfl) (by kernel_rfl) (by kernel_rfl) (fun w3 hc3 hs3 => ?_)
          have hR3 := (hR.ch hc2).ch hc3
          have hP3 := hP.ch hc3
          have hc03 : Ch [] w1 w3 := hc2.then hc3
          (first | refine zn 1 rfl ?_ | refine znt 1 rfl ?_ | refine znff 1 rfl ?_); (first | refine zn 3 rfl ?_ | refine znt 3 rfl ?_ | refine znff 3 rfl ?_); (first | refine zn 4 rfl ?_ | refine znt 4 rfl ?_ | refine znff 4 rfl ?_)
          refine zn_cut_lo 5 rfl hR3 rfl rfl rfl (by omega) (by omega) (fun v4 hV4 => ?_)
          rw [Int.toNat_natCast] at hV4
          refine zn1 0 (by kernel_rfl) rfl (fun w4 hG4 => ?_)
          refine wl_buildSlice (parts := []) (vs := []) rfl rfl (by simp) (by omega) (fun w5 ba hba => ?_)
          refine x_wz (.inl (Gr.new stab_tru hba.ch)) rfl ?_
          have hc05 : Ch [] w1 w5 := (hc03.then hG4.ch).then hba.ch
          have hle : w1.heap.size ≤ ba := by rw [hba.at_]; exact (hc03.then hG4.ch).size
          refine zn1 2 (by kernel_rfl) rfl (fun w6 hG6 => ?_)
          refine wl_append_e (en := eH) (n := 32) (base := w1.heap.size) rfl rfl rfl (Blk.ch (show Blk w5 ba [] 30 from hba.blk) hG6.ch (by simp)) hle rfl (((hP3.ch hG4.ch).ch hba.ch).ch hG6.ch) (by rw [List.length_reverse]; omega) (by rw [List.length_reverse]; omega) (fun vv w7 hO7 hch7 => ?_)
          refine x_wz (.inl (Gr.new stab_tru hch7)) rfl ?_
          have hc07 : Ch [] w1 w7 := (hc05.then hG6.ch).then hch7
          have hV7 : (Ty.enc eH).Rd [] w7 v4 (lv.drop sk) := ((((hV4.ch hG4.ch).ch hba.ch).ch hG6.ch).ch hch7)
          refine zn1 6 (by kernel_rfl) rfl (fun w8 hG8 => ?_)
          (try ((with_reducible apply is_gd); first | refine gt ?_ | refine gf ?_ | refine gu ?_)); refine ca (rroot_any (lv.drop sk).length v4 (lv.drop sk) w8 rfl (hV7.ch hG8.ch) (by rw [List.length_drop]; omega)) ?_
          rintro _ w9 ⟨rfl, hc9⟩
          refine x_wz (.inl (Gr.new stab_tru hc9)) rfl ?_
          refine zn1 7 (by kernel_rfl) rfl (fun w10 hG10 => ?_)
          refine wl_buildSlice (parts := [(0, .tmp 42)]) (vs := [hv (rootH (lv.drop sk)).1]) rfl rfl (by simp [hv, Value.cells, (rootH (lv.drop sk)).2]) (by omega) (fun w11 bs hbs => ?_)
          refine x_wz (.inl (Gr.new stab_tru hbs.ch)) rfl ?_
          refine zn1 8 (by kernel_rfl) rfl (fun w12 hG12 => ?_)
          have hch712 : Ch [] w7 w12 := (((hG8.ch.then hc9).then hG10.ch).then hbs.ch).then hG12.ch
          have hO12 := hO7.ch hch712 (by simp)
          refine wl_append (en := eH) (n := 32) (v := vv) (ys := [rootH (lv.drop sk)]) rfl rfl (by decide) rfl hO12 (hc07.then hch712).size rfl ((hbs.blk.ch hG12.ch (by simp)).row (n := 32) (o := 0) (ds := [rootH (lv.drop sk)].flatMap eH.f) (by simp [hv, Value.cells, List.take_of_length_le, (rootH (lv.drop sk)).2])) (by simp; omega) (by simp; omega) (fun v13 w13 hO13 hch13 hat => ?_)
          have hc13 : Ch [] w1 w13 := (hc07.then hch712).trans hch13 (by simp) (fun x hx hm => by
            have := (hO12.lt (k := x) (by simpa using hm)).1
            omega)
          refine x_wz (.inr (by decide)) rfl ?_
          (first | refine zn 9 rfl ?_ | refine znt 9 rfl ?_ | refine znff 9 rfl ?_); (first | refine zn 10 rfl ?_ | refine znt 10 rfl ?_ | refine znff 10 rfl ?_)
          refine wz_done (by kernel_rfl) (fun w14 hG14 => ?_)
          (try refine wk ?_)
          exact out2 rfl ⟨hc13.then hG14.ch, _, rfl, fun S hS => (hO13.ch hG14.ch (by simp)).rd (fun q hq hm => by
            have h1 := (hO13.lt hq).1
            have h2 := hS _ hm
            omega) (by simp; omega)⟩
        · have hdo := down_right (l := lv) (by omega) (by omega) hm
          rw [hdo, List.reverse_cons]
          generalize splitN lv.length = sk at *
          (try refine wk ?_)
          refine c_cond rfl (fun h => absurd h (by omega)) (fun _ => ?_)
          (try refine wk ?_)
          refine wl_cut_lo rfl hR rfl rfl (by omega) (by omega) (fun v1 hV1 => ?_)
          rw [Int.toNat_natCast] at hV1
          (try refine wk ?_)
          (try ((with_reducible apply is_gd); first | refine gt ?_ | refine gf ?_ | refine gu ?_)); refine ca (ih (lv.drop sk).length (by rw [List.length_drop]; omega) v1 (lv.drop sk) ((m : Int) - sk) w1 rfl hV1 (by rw [List.length_drop]; omega)) ?_
          rw [show ((m : Int) - (sk : Int)) = ((m - sk : Nat) : Int) by omega]
          rintro _ w2 ⟨hc2, v2, rfl, hP⟩
          have hP := hP [] (by simp)
          rw [pathZ_t (by rw [List.length_drop]; omega)] at hP
          have hdl := down_len (lv.drop sk) (m - sk)
          rw [List.length_drop] at hdl
          obtain ⟨A2, c2, rfl⟩ := hP.form
          (try refine wk ?_)
          refine c_ordZ ([8], []) [] Tru (by kernel_rfl) (by kernel_rfl) (by kernel_rfl) (fun w3 hc3 hs3 => ?_)
          have hR3 := (hR.ch hc2).ch hc3
          have hP3 := hP.ch hc3
          have hc03 : Ch [] w1 w3 := hc2.then hc3
          (first | refine zn 1 rfl ?_ | refine znt 1 rfl ?_ | refine znff 1 rfl ?_); (first | refine zn 3 rfl ?_ | refine znt 3 rfl ?_ | refine znff 3 rfl ?_); (first | refine zn 4 rfl ?_ | refine znt 4 rfl ?_ | refine znff 4 rfl ?_)
          refine zn_cut_hi 5 rfl hR3 rfl rfl rfl (by omega) (by omega) (fun v4 hV4 => ?_)
          rw [Int.toNat_natCast] at hV4
          refine zn1 0 (by kernel_rfl) rfl (fun w4 hG4 => ?_)
          refine wl_buildSlice (parts := []) (vs := []) rfl rfl (by simp) (by omega) (fun w5 ba hba => ?_)
          refine x_wz (.inl (Gr.new stab_tru hba.ch)) rfl ?_
          have hc05 : Ch [] w1 w5 := (hc03.then hG4.ch).then hba.ch
          have hle : w1.heap.size ≤ ba := by rw [hba.at_]; exact (hc03.then hG4.ch).size
          refine zn1 2 (by kernel_rfl) rfl (fun w6 hG6 => ?_)
          refine wl_append_e (en := eH) (n := 32) (base := w1.heap.size) rfl rfl rfl (Blk.ch (show Blk w5 ba [] 30 from hba.blk) hG6.ch (by simp)) hle rfl (((hP3.ch hG4.ch).ch hba.ch).ch hG6.ch) (by rw [List.length_reverse]; omega) (by rw [List.length_reverse]; omega) (fun vv w7 hO7 hch7 => ?_)
          refine x_wz (.inl (Gr.new stab_tru hch7)) rfl ?_
          have hc07 : Ch [] w1 w7 := (hc05.then hG6.ch).then hch7
          have hV7 : (Ty.enc eH).Rd [] w7 v4 (lv.take sk) := ((((hV4.ch hG4.ch).ch hba.ch).ch hG6.ch).ch hch7)
          refine zn1 6 (by kernel_rfl) rfl (fun w8 hG8 => ?_)
          (try ((with_reducible apply is_gd); first | refine gt ?_ | refine gf ?_ | refine gu ?_)); refine ca (rroot_any (lv.take sk).length v4 (lv.take sk) w8 rfl (hV7.ch hG8.ch) (by rw [List.length_take]; omega)) ?_
          rintro _ w9 ⟨rfl, hc9⟩
          refine x_wz (.inl (Gr.new stab_tru hc9)) rfl ?_
          refine zn1 7 (by kernel_rfl) rfl (fun w10 hG10 => ?_)
          refine wl_buildSlice (parts := [(0, .tmp 61)]) (vs := [hv (rootH (lv.take sk)).1]) rfl rfl (by simp [hv, Value.cells, (rootH (lv.take sk)).2]) (by omega) (fun w11 bs hbs => ?_)
          refine x_wz (.inl (Gr.new stab_tru hbs.ch)) rfl ?_
          refine zn1 8 (by kernel_rfl) rfl (fun w12 hG12 => ?_)
          have hch712 : Ch [] w7 w12 := (((hG8.ch.then hc9).then hG10.ch).then hbs.ch).then hG12.ch
          have hO12 := hO7.ch hch712 (by simp)
          refine wl_append (en := eH) (n := 32) (v := vv) (ys := [rootH (lv.take sk)]) rfl rfl (by decide) rfl hO12 (hc07.then hch712).size rfl ((hbs.blk.ch hG12.ch (by simp)).row (n := 32) (o := 0) (ds := [rootH (lv.take sk)].flatMap eH.f) (by simp [hv, Value.cells, List.take_of_length_le, (rootH (lv.take sk)).2])) (by simp; omega) (by simp; omega) (fun v13 w13 hO13 hch13 hat => ?_)
          have hc13 : Ch [] w1 w13 := (hc07.then hch712).trans hch13 (by simp) (fun x hx hm => by
            have := (hO12.lt (k := x) (by simpa using hm)).1
            omega)
          refine x_wz (.inr (by decide)) rfl ?_
          (first | refine zn 9 rfl ?_ | refine znt 9 rfl ?_ | refine znff 9 rfl ?_); (first | refine zn 10 rfl ?_ | refine znt 10 rfl ?_ | refine znff 10 rfl ?_)
          refine wz_done (by kernel_rfl) (fun w14 hG14 => ?_)
          (try refine wk ?_)
          exact out2 rfl ⟨hc13.then hG14.ch, _, rfl, fun S hS => (hO13.ch hG14.ch (by simp)).rd (fun q hq hm => by
            have h1 := (hO13.lt hq).1
            have h2 := hS _ hm
            omega) (by simp; omega)⟩
end Go.Proofs.YtkdbinchlpdkmaaDoor
set_option linter.unusedVariables false
set_option linter.unusedSimpArgs false
namespace Go.Proofs.YtkdbinchlpdkmaaDoor
open Go Go.RowKit Go.Proofs.E
attribute [local irreducible] Go.wpList Go.Code.wp Go.Proofs.E.exec Go.Proofs.E.wpLexG
end Go.Proofs.YtkdbinchlpdkmaaDoor
set_option linter.unusedVariables false
set_option linter.unusedSimpArgs false
namespace Go.Proofs.YtkdbinchlpdkmaaDoor
open Go Go.RowKit Go.Proofs.E
attribute [local irreducible] Go.wpList Go.Code.wp Go.Proofs.E.exec Go.Proofs.E.wpLexG
end Go.Proofs.YtkdbinchlpdkmaaDoor

/- Walk of law 34: the document's Parse.
   Walk of law 34: the program's Parse, whole.
   Walk of law 34: the program's reader of tests.
   Walk of law 34: the program's Parse.
   Walks of law 34: quoted texts and numbers printed, both.
   Walk of law 34: the document's Parse, whole. -/
import Derived.Test.YtoimhmphhffelaaGreatDoorQQueryPrints20
import Derived.Test.YtoimhmphhffelaaGreatDoorQQueryPrints21
set_option linter.unusedVariables false
set_option linter.unusedSimpArgs false
namespace Go.Proofs.E
open Go Go.RowKit
theorem Mem.rowRd1 {O : List Nat} {w0 w : World} {L L' L'' : List As} {α : Type} {en : En α} {E F : TypeId} {v : Value} {xs : List α} {b : Nat} {cs : List Value} (h : Mem O w0 w L) (hb : xs.length ≤ 9223372036854775807)
    (hp : Pick L (.row en E v xs) L' := by (repeat (first | exact Go.Proofs.E.Pick.here | apply Go.Proofs.E.Pick.there))) (hq : Pick L' (.cell b cs F) L'' := by (repeat (first | exact Go.Proofs.E.Pick.here | apply Go.Proofs.E.Pick.there))) : (Ty.enc en).Rd [b] w v xs :=
  (h.row0 hp).rd (fun k hk hm => by
    have hd := (List.pairwise_cons.1 (h.pick hp).dis).1 (.cell b cs F) (hq.perm.mem_iff.2 (by simp)) k hk
    exact hd (show k = b by simpa using hm)) hb
theorem words_len (s : List UInt8) : (wordsB s).length ≤ s.length ∧ ∀ x ∈ wordsB s, x.length ≤ s.length := by
  unfold wordsB
  have : ∀ (n : Nat) (s : List UInt8), (wordsF n s).length ≤ s.length ∧ ∀ x ∈ wordsF n s, x.length ≤ s.length := by
    intro n
    induction n with
    | zero => intro s; exact ⟨by simp [wordsF], fun x hx => by cases hx⟩
    | succ n ih =>
      intro s
      unfold wordsF
      have hl := dropWhile_le (fun x => x == 32) s
      cases hd : s.dropWhile (fun x => x == 32) with
      | nil => exact ⟨by simp, fun x hx => by cases hx⟩
      | cons c t =>
        rw [hd] at hl
        have hc : c ≠ 32 := by simpa using dropWhile_head hd
        have hp := wlen_pos (t := t) hc
        obtain ⟨h1, h2⟩ := ih ((c :: t).drop (wlen (c :: t)))
        rw [List.length_drop] at h1 h2
        simp only [List.length_cons] at hl h1 h2 ⊢
        refine ⟨by omega, fun x hx => ?_⟩
        rcases List.mem_cons.1 hx with rfl | hx
        · rw [List.length_take]; simp; omega
        · have := h2 x hx; omega
  exact this _ _
end Go.Proofs.E
namespace Go.Proofs.YtoimhmphhffelaaGreatDoor
open Go Go.RowKit Go.Proofs.E
attribute [local irreducible] Go.wpList Go.Code.wp Go.Proofs.E.exec Go.Proofs.E.wpLexG
abbrev quC (at_ : Int) (fr to_ : List UInt8) (vt : Value) (back : Bool) (skip lim : Int) (cnt : Bool) : List Value := [.int .i64 at_, .string (bst fr), .string (bst to_), vt, .bool back, .int .i64 skip, .int .i64 lim, .bool cnt]
theorem see_t {α : Type} {wo : List (List UInt8)} {x : List UInt8} {s : PS} (h : qSees wo x s = true) : s.2 = false ∧ s.1 < wo.length ∧ seeS wo x s = (s.1 + 1, false) ∧ ∀ (f : List UInt8 → Option α) (d : α), qSt wo x f s = qAft (qGet wo f (s.1 + 1, false)) (s.1 + 1, false) ∧ qVal wo x f d s = qGet wo f (s.1 + 1, false) := by
  have hb : s.2 = false := by
    cases hs : s.2 with
    | false => rfl
    | true => rw [sees_bad hs] at h; cases h
  have hi : s.1 < wo.length := by
    rcases Nat.lt_or_ge s.1 wo.length with q | q
    · exact q
    · rw [see_none (.inr q)] at h; cases h
  refine ⟨hb, hi, ?_, fun f d => ⟨?_, ?_⟩⟩
  · unfold seeS; rw [if_pos h, hb]
  · unfold qSt; rw [if_pos h]
  · unfold qVal; rw [if_pos h]
theorem see_f {α : Type} {wo : List (List UInt8)} {x : List UInt8} {s : PS} (h : qSees wo x s = false) : seeS wo x s = s ∧ ∀ (f : List UInt8 → Option α) (d : α), qSt wo x f s = s ∧ qVal wo x f d s = some d := by
  refine ⟨?_, fun f d => ⟨?_, ?_⟩⟩
  · unfold seeS; rw [if_neg (by rw [h]; simp)]
  · unfold qSt; rw [if_neg (by rw [h]; simp)]
  · unfold qVal; rw [if_neg (by rw [h]; simp)]
theorem st_le {α : Type} {wo : List (List UInt8)} {x : List UInt8} {f : List UInt8 → Option α} {s : PS} (h : s.1 ≤ wo.length) : (qSt wo x f s).1 ≤ wo.length := by
  cases q : qSees wo x s with
  | true =>
    obtain ⟨_, h2, _, h4⟩ := see_t (α := α) q
    by_cases hd : Nonempty α
    · obtain ⟨d⟩ := hd
      rw [(h4 f d).1]
      exact aft_le (by simp only; omega)
    · unfold qSt
      rw [if_pos q]
      exact aft_le (by simp only; omega)
  | false =>
    unfold qSt
    rw [if_neg (by rw [q]; simp)]
    exact h
/-- What Parse hands back. -/
def ParsePost (T : TypeId) (s : List UInt8) (w0 : World) (u : Value) (w' : World) : Prop :=
  ∃ vt, u = .tuple #[.agg (quC (parseQ s).1.at_ (parseQ s).1.fr (parseQ s).1.to_ vt (parseQ s).1.back (parseQ s).1.skip (parseQ s).1.lim (parseQ s).1.cnt).toArray, .int .i64 ((parseQ s).2.1 : Int), .int .i64 ((parseQ s).2.2 : Int)] ∧ Mem [] w0 w' [.row eTs T vt (parseQ s).1.ts]
theorem tests_step {wo : List (List UInt8)} {n : Nat} {j : List UInt8} {l : List TsV} {s : PS} (h : qSees wo j s = true) (hl : l.length ≠ 50) : qTests wo (n + 1) j l s = qTests wo n wAnd (l ++ [(qTest wo (s.1 + 1, false)).1.getD (0, 0, [])]) (qTest wo (s.1 + 1, false)).2 := by
  unfold qTests
  rw [if_pos h, if_neg hl]
  cases n <;> rfl
theorem tests_full {wo : List (List UInt8)} {n : Nat} {j : List UInt8} {l : List TsV} {s : PS} (h : qSees wo j s = true) (hl : l.length = 50) : qTests wo (n + 1) j l s = (l, (s.1, true)) := by
  unfold qTests
  rw [if_pos h, if_pos hl]
theorem tests_off {wo : List (List UInt8)} {n : Nat} {j : List UInt8} {l : List TsV} {s : PS} (h : qSees wo j s = false) : qTests wo (n + 1) j l s = (l, s) := by
  unfold qTests
  rw [if_neg (by rw [h]; simp)]
theorem test_le {wo : List (List UInt8)} {s : PS} (h : s.1 ≤ wo.length) : (qTest wo s).2.1 ≤ wo.length := by
  unfold qTest
  exact aft_le (aft_le (aft_le h))
theorem test_val {wo : List (List UInt8)} {s : PS} {t : TsV} {l l' : List TsV} {b : Bool} (ht : ∀ a, (qTest wo s).1 = some a → t = a) (hll : l'.length = l.length) (hl : l' = l) : (l' ++ [t]).length = (l ++ [(qTest wo s).1.getD (0, 0, [])]).length ∧ ((qTest wo s).2.2 = false → l' ++ [t] = l ++ [(qTest wo s).1.getD (0, 0, [])]) := by
  refine ⟨by simp [hll], fun hb => ?_⟩
  obtain ⟨_, a, ha, _⟩ := test_ok hb
  rw [ha, hl, ht a ha]
  rfl
theorem tests_le {wo : List (List UInt8)} : ∀ {n : Nat} {j : List UInt8} {l : List TsV} {s : PS}, s.1 ≤ wo.length → (qTests wo n j l s).2.1 ≤ wo.length
  | 0, j, l, s, h => h
  | n + 1, j, l, s, h => by
    unfold qTests
    split
    · rename_i q
      split
      · exact h
      · exact tests_le (test_le (by show s.1 + 1 ≤ wo.length; exact (see_t (α := Int) q).2.1))
    · exact h
theorem all_vals {wo : List (List UInt8)} (h : (st8 wo).2 = false) : (∃ a, qVal wo wAt numI (-1) (st1 wo) = some a) ∧ (∃ a, qVal wo wFrom textQ [] (st2 wo) = some a) ∧ (∃ a, qVal wo wTo textQ [] (st3 wo) = some a) ∧ (st5 wo).2 = false ∧ (∃ a, qVal wo wSkip numI 0 (st6 wo) = some a) ∧ (∃ a, qVal wo wLimit numI (-1) (st7 wo) = some a) := by
  obtain ⟨h7, vL, eL⟩ := qst_ok (d := (-1 : Int)) h
  obtain ⟨h6, vS, eS⟩ := qst_ok (d := (0 : Int)) h7
  have h5 : (st5 wo).2 = false := by
    unfold st6 at h6
    split at h6
    · rename_i q
      cases hs : (st5 wo).2 with
      | false => rfl
      | true => rw [sees_bad hs] at q; cases q
    · exact h6
  obtain ⟨h4, t1, t2⟩ := tests_right h5 (by simp) (by simp)
  obtain ⟨h3, vT, eT⟩ := qst_ok (d := ([] : List UInt8)) h4
  obtain ⟨h2, vF, eF⟩ := qst_ok (d := ([] : List UInt8)) h3
  obtain ⟨h1, vA, eA⟩ := qst_ok (d := (-1 : Int)) h2
  exact ⟨⟨vA, eA⟩, ⟨vF, eF⟩, ⟨vT, eT⟩, h5, ⟨vS, eS⟩, ⟨vL, eL⟩⟩
end Go.Proofs.YtoimhmphhffelaaGreatDoor
set_option linter.unusedVariables false
set_option linter.unusedSimpArgs false
namespace Go.Proofs.YtoimhmphhffelaaGreatDoor
open Go Go.RowKit Go.Proofs.E
attribute [local irreducible] Go.wpList Go.Code.wp Go.Proofs.E.exec Go.Proofs.E.wpLexG
theorem optV_getD {α : Type} {vf : α → Value} {z : α} {o : Option α} : optV vf (vf z) o = vf (o.getD z) := by cases o <;> rfl
set_option maxHeartbeats 8000000 in
theorem clause_any {Post : World → Prop} (b5 bR : Nat) (x : List UInt8) (vl : Value) (wo : List (List UInt8)) (s : PS) (g : FuncId) (fn : Func) (lb : Array Value) [hF : Fun Tryz.prog g fn] (w0 : World) (T5 : TypeId) (h5 : Blk w0 b5 [.pointer (some ⟨bR, 0, none⟩)] T5) (hB : Blk w0 bR (rdC vl s) 103) (hn5 : b5 ∉ [bR]) (hW : (Ty.enc eBs).Rd [bR] w0 vl wo) (hs : s.1 ≤ wo.length) (hl : wo.length ≤ 100000)
    (hT : qSees wo x s = true → ∀ w1, Ch [bR] w0 w1 → Blk w1 bR (rdC vl (s.1 + 1, false)) 103 → Calls Tryz.prog g lb w1 (Ret fun u w2 => Post w2))
    (hF : qSees wo x s = false → ∀ w1, Ch [bR] w0 w1 → Blk w1 bR (rdC vl s) 103 → Post w1) :
    Calls Tryz.prog 63 #[.string (bst x), .func (.func g) #[] lb, .pointer (some ⟨b5, 0, none⟩)] w0 (Ret fun u w' => Post w') := by
  have hM := Mem.take hB
  refine enter [.string (bst x), .func (.func g) #[] lb, .pointer (some ⟨b5, 0, none⟩), undef, undef, undef, undef, undef, undef, undef] Tryz.func63 rfl rfl ?_
  repeat (first | refine gs ?_ | (refine ks ?_; intro w hM))
  refine ca (sees_any bR vl wo s x w0 hB hW hs hl) ?_
  rintro _ w2 ⟨rfl, hc, hB2⟩
  have hM := hM.cellSet hB2 hc
  repeat (first | refine gs ?_ | (refine ks ?_; intro w hM))
  cases hq : qSees wo x s with
  | true =>
    rw [(see_t (α := Int) hq).2.2.1] at hB2
    refine c_condb rfl (fun _ => ?_) (fun h => by cases h)
    repeat (first | refine gs ?_ | (refine ks ?_; intro w hM))
    refine kcd (f := g) (vs := []) (lb := lb) (by simpa using hT hq w2 hc hB2) ?_
    intro v w3 hP
    repeat (first | refine gs ?_ | (refine ks ?_; intro w hM))
    exact out0 rfl hP
  | false =>
    rw [(see_f (α := Int) hq).1] at hB2
    refine c_condb rfl (fun h => by cases h) (fun _ => ?_)
    repeat (first | refine gs ?_ | (refine ks ?_; intro w hM))
    exact out0 rfl (hF hq w2 hc hB2)
set_option maxHeartbeats 8000000 in
theorem thenAt_any (b5 bR b6 : Nat) (at_ : Int) (fr to_ : List UInt8) (A : Option Addr) (n c : Nat) (bk : Bool) (sk lm : Int) (ct : Bool) (vl : Value) (wo : List (List UInt8)) (s : PS) (w0 : World) (T5 : TypeId) (h5 : Blk w0 b5 [.pointer (some ⟨bR, 0, none⟩)] T5) (hB : Blk w0 bR (rdC vl s) 103) (h6 : Blk w0 b6 (quC (-1) fr to_ (.slice A n c) bk sk lm ct) 46) (hne : bR ≠ b6) (hn5 : b5 ∉ [bR, b6]) (hW : (Ty.enc eBs).Rd [bR] w0 vl wo) (hs : s.1 ≤ wo.length) (hl : wo.length ≤ 100000) (hxl : ∀ x ∈ wo, x.length ≤ 100000) :
    Calls Tryz.prog 65 #[.pointer (some ⟨b5, 0, none⟩), .pointer (some ⟨b6, 0, none⟩)] w0 (Ret fun u w' => Ch [bR, b6] w0 w' ∧ Blk w' bR (rdC vl (qAft (qGet wo numI s) s)) 103 ∧ Blk w' b6 (quC ((qGet wo numI s).getD 0) fr to_ (.slice A n c) bk sk lm ct) 46) := by
  have hM := Mem.take2 hB h6 hne
  refine enter [.pointer (some ⟨b5, 0, none⟩), .pointer (some ⟨b6, 0, none⟩), undef, undef, undef] Tryz.func65 rfl rfl ?_
  repeat (first | refine gs ?_ | (refine ks ?_; intro w hM))
  refine ca (nexti_any numI (fun n : Int => Value.int .i64 n) (fun x => Value.int .i64 ((numI x).getD 0)) 66 Tryz.f66 #[] bR vl wo s w0 hB hW hs hl (fun x w1 hx _ => number_any x w1 (hxl x hx)) (fun x a h => by rw [h]; rfl)) ?_
  rintro _ w2 ⟨rfl, hc, hB2⟩
  have hM := hM.cellSet hB2 hc
  rw [show optV (fun n : Int => Value.int .i64 n) (Value.int .i64 0) (qGet wo numI s) = (fun n : Int => Value.int .i64 n) ((qGet wo numI s).getD 0) from optV_getD (vf := (fun n : Int => Value.int .i64 n)) (z := 0)]
  repeat (first | refine gs ?_ | (refine ks ?_; intro w hM))
  exact out0 rfl ⟨hM.ch, hM.blk (b := bR) (by (repeat constructor)), hM.blk (b := b6) (by (repeat constructor))⟩
theorem clAt_any (b5 bR b6 : Nat) (at_ : Int) (fr to_ : List UInt8) (A : Option Addr) (n c : Nat) (bk : Bool) (sk lm : Int) (ct : Bool) (vl : Value) (wo : List (List UInt8)) (s : PS) (w0 : World) (T5 : TypeId) (h5 : Blk w0 b5 [.pointer (some ⟨bR, 0, none⟩)] T5) (hB : Blk w0 bR (rdC vl s) 103) (h6 : Blk w0 b6 (quC (-1) fr to_ (.slice A n c) bk sk lm ct) 46) (hne : bR ≠ b6) (hn5 : b5 ∉ [bR, b6]) (hW : (Ty.enc eBs).Rd [bR] w0 vl wo) (hs : s.1 ≤ wo.length) (hl : wo.length ≤ 100000) (hxl : ∀ x ∈ wo, x.length ≤ 100000) :
    Calls Tryz.prog 63 #[.string (bst wAt), .func (.func 65) #[] #[.pointer (some ⟨b5, 0, none⟩), .pointer (some ⟨b6, 0, none⟩)], .pointer (some ⟨b5, 0, none⟩)] w0 (Ret fun u w' => Ch [bR, b6] w0 w' ∧ Blk w' bR (rdC vl (qSt wo wAt numI s)) 103 ∧ ∃ v : Int, (∀ a, qVal wo wAt numI (-1) s = some a → v = a) ∧ Blk w' b6 (quC v fr to_ (.slice A n c) bk sk lm ct) 46) := by
  have hn5a : b5 ∉ [bR] := fun h => hn5 (by simp at h; simp [h])
  have h6n : b6 ∉ [bR] := fun h => hne (by simp at h; exact h.symm)
  refine clause_any (Post := fun w' => Ch [bR, b6] w0 w' ∧ Blk w' bR (rdC vl (qSt wo wAt numI s)) 103 ∧ ∃ v : Int, (∀ a, qVal wo wAt numI (-1) s = some a → v = a) ∧ Blk w' b6 (quC v fr to_ (.slice A n c) bk sk lm ct) 46) b5 bR wAt vl wo s 65 Tryz.f65 #[.pointer (some ⟨b5, 0, none⟩), .pointer (some ⟨b6, 0, none⟩)] w0 T5 h5 hB hn5a hW hs hl (fun hq w1 hc hB1 => ?_) (fun hq w1 hc hB1 => ?_)
  · obtain ⟨e0, e1, _, e2⟩ := see_t (α := Int) hq
    refine (thenAt_any b5 bR b6 at_ fr to_ A n c bk sk lm ct vl wo (s.1 + 1, false) w1 T5 (h5.ch hc hn5a) hB1 (h6.ch hc h6n) hne hn5 (hW.ch hc) (by show s.1 + 1 ≤ wo.length; omega) hl hxl).mono fun e w2 ⟨u, he, h1, h2, h3⟩ => ⟨u, he, hc.trans h1 (fun x _ h => by simp at h; simp [h]) (fun x _ h => h), ?_, _, fun a ha => ?_, h3⟩
    · rw [(e2 numI (-1)).1]; exact h2
    · rw [(e2 numI (-1)).2] at ha
      rw [ha]
      rfl
  · obtain ⟨_, e2⟩ := see_f (α := Int) hq
    refine ⟨hc.mono (fun x _ h => by simp at h; simp [h]), ?_, (-1), fun a ha => ?_, h6.ch hc h6n⟩
    · rw [(e2 numI (-1)).1]; exact hB1
    · rw [(e2 numI (-1)).2] at ha
      injection ha
set_option maxHeartbeats 8000000 in
theorem thenFr_any (b5 bR b6 : Nat) (at_ : Int) (fr to_ : List UInt8) (A : Option Addr) (n c : Nat) (bk : Bool) (sk lm : Int) (ct : Bool) (vl : Value) (wo : List (List UInt8)) (s : PS) (w0 : World) (T5 : TypeId) (h5 : Blk w0 b5 [.pointer (some ⟨bR, 0, none⟩)] T5) (hB : Blk w0 bR (rdC vl s) 103) (h6 : Blk w0 b6 (quC at_ [] to_ (.slice A n c) bk sk lm ct) 46) (hne : bR ≠ b6) (hn5 : b5 ∉ [bR, b6]) (hW : (Ty.enc eBs).Rd [bR] w0 vl wo) (hs : s.1 ≤ wo.length) (hl : wo.length ≤ 100000) (hxl : ∀ x ∈ wo, x.length ≤ 100000) :
    Calls Tryz.prog 67 #[.pointer (some ⟨b5, 0, none⟩), .pointer (some ⟨b6, 0, none⟩)] w0 (Ret fun u w' => Ch [bR, b6] w0 w' ∧ Blk w' bR (rdC vl (qAft (qGet wo textQ s) s)) 103 ∧ Blk w' b6 (quC at_ ((qGet wo textQ s).getD []) to_ (.slice A n c) bk sk lm ct) 46) := by
  have hM := Mem.take2 hB h6 hne
  refine enter [.pointer (some ⟨b5, 0, none⟩), .pointer (some ⟨b6, 0, none⟩), undef, undef, undef] Tryz.func67 rfl rfl ?_
  repeat (first | refine gs ?_ | (refine ks ?_; intro w hM))
  refine ca (nexts_any textQ (fun n : List UInt8 => Value.string (bst n)) (fun x => Value.string (bst (textV x))) 69 Tryz.f69 #[] bR vl wo s w0 hB hW hs hl (fun x w1 hx _ => unquote_any x w1 (hxl x hx)) (fun x a h => by rw [textV_of h])) ?_
  rintro _ w2 ⟨rfl, hc, hB2⟩
  have hM := hM.cellSet hB2 hc
  rw [show optV (fun n : List UInt8 => Value.string (bst n)) (Value.string (bst [])) (qGet wo textQ s) = (fun n : List UInt8 => Value.string (bst n)) ((qGet wo textQ s).getD []) from optV_getD (vf := (fun n : List UInt8 => Value.string (bst n))) (z := [])]
  repeat (first | refine gs ?_ | (refine ks ?_; intro w hM))
  exact out0 rfl ⟨hM.ch, hM.blk (b := bR) (by (repeat constructor)), hM.blk (b := b6) (by (repeat constructor))⟩
theorem clFr_any (b5 bR b6 : Nat) (at_ : Int) (fr to_ : List UInt8) (A : Option Addr) (n c : Nat) (bk : Bool) (sk lm : Int) (ct : Bool) (vl : Value) (wo : List (List UInt8)) (s : PS) (w0 : World) (T5 : TypeId) (h5 : Blk w0 b5 [.pointer (some ⟨bR, 0, none⟩)] T5) (hB : Blk w0 bR (rdC vl s) 103) (h6 : Blk w0 b6 (quC at_ [] to_ (.slice A n c) bk sk lm ct) 46) (hne : bR ≠ b6) (hn5 : b5 ∉ [bR, b6]) (hW : (Ty.enc eBs).Rd [bR] w0 vl wo) (hs : s.1 ≤ wo.length) (hl : wo.length ≤ 100000) (hxl : ∀ x ∈ wo, x.length ≤ 100000) :
    Calls Tryz.prog 63 #[.string (bst wFrom), .func (.func 67) #[] #[.pointer (some ⟨b5, 0, none⟩), .pointer (some ⟨b6, 0, none⟩)], .pointer (some ⟨b5, 0, none⟩)] w0 (Ret fun u w' => Ch [bR, b6] w0 w' ∧ Blk w' bR (rdC vl (qSt wo wFrom textQ s)) 103 ∧ ∃ v : List UInt8, (∀ a, qVal wo wFrom textQ [] s = some a → v = a) ∧ Blk w' b6 (quC at_ v to_ (.slice A n c) bk sk lm ct) 46) := by
  have hn5a : b5 ∉ [bR] := fun h => hn5 (by simp at h; simp [h])
  have h6n : b6 ∉ [bR] := fun h => hne (by simp at h; exact h.symm)
  refine clause_any (Post := fun w' => Ch [bR, b6] w0 w' ∧ Blk w' bR (rdC vl (qSt wo wFrom textQ s)) 103 ∧ ∃ v : List UInt8, (∀ a, qVal wo wFrom textQ [] s = some a → v = a) ∧ Blk w' b6 (quC at_ v to_ (.slice A n c) bk sk lm ct) 46) b5 bR wFrom vl wo s 67 Tryz.f67 #[.pointer (some ⟨b5, 0, none⟩), .pointer (some ⟨b6, 0, none⟩)] w0 T5 h5 hB hn5a hW hs hl (fun hq w1 hc hB1 => ?_) (fun hq w1 hc hB1 => ?_)
  · obtain ⟨e0, e1, _, e2⟩ := see_t (α := List UInt8) hq
    refine (thenFr_any b5 bR b6 at_ fr to_ A n c bk sk lm ct vl wo (s.1 + 1, false) w1 T5 (h5.ch hc hn5a) hB1 (h6.ch hc h6n) hne hn5 (hW.ch hc) (by show s.1 + 1 ≤ wo.length; omega) hl hxl).mono fun e w2 ⟨u, he, h1, h2, h3⟩ => ⟨u, he, hc.trans h1 (fun x _ h => by simp at h; simp [h]) (fun x _ h => h), ?_, _, fun a ha => ?_, h3⟩
    · rw [(e2 textQ []).1]; exact h2
    · rw [(e2 textQ []).2] at ha
      rw [ha]
      rfl
  · obtain ⟨_, e2⟩ := see_f (α := List UInt8) hq
    refine ⟨hc.mono (fun x _ h => by simp at h; simp [h]), ?_, [], fun a ha => ?_, h6.ch hc h6n⟩
    · rw [(e2 textQ []).1]; exact hB1
    · rw [(e2 textQ []).2] at ha
      injection ha
set_option maxHeartbeats 8000000 in
theorem thenTo_any (b5 bR b6 : Nat) (at_ : Int) (fr to_ : List UInt8) (A : Option Addr) (n c : Nat) (bk : Bool) (sk lm : Int) (ct : Bool) (vl : Value) (wo : List (List UInt8)) (s : PS) (w0 : World) (T5 : TypeId) (h5 : Blk w0 b5 [.pointer (some ⟨bR, 0, none⟩)] T5) (hB : Blk w0 bR (rdC vl s) 103) (h6 : Blk w0 b6 (quC at_ fr [] (.slice A n c) bk sk lm ct) 46) (hne : bR ≠ b6) (hn5 : b5 ∉ [bR, b6]) (hW : (Ty.enc eBs).Rd [bR] w0 vl wo) (hs : s.1 ≤ wo.length) (hl : wo.length ≤ 100000) (hxl : ∀ x ∈ wo, x.length ≤ 100000) :
    Calls Tryz.prog 70 #[.pointer (some ⟨b5, 0, none⟩), .pointer (some ⟨b6, 0, none⟩)] w0 (Ret fun u w' => Ch [bR, b6] w0 w' ∧ Blk w' bR (rdC vl (qAft (qGet wo textQ s) s)) 103 ∧ Blk w' b6 (quC at_ fr ((qGet wo textQ s).getD []) (.slice A n c) bk sk lm ct) 46) := by
  have hM := Mem.take2 hB h6 hne
  refine enter [.pointer (some ⟨b5, 0, none⟩), .pointer (some ⟨b6, 0, none⟩), undef, undef, undef] Tryz.func70 rfl rfl ?_
  repeat (first | refine gs ?_ | (refine ks ?_; intro w hM))
  refine ca (nexts_any textQ (fun n : List UInt8 => Value.string (bst n)) (fun x => Value.string (bst (textV x))) 69 Tryz.f69 #[] bR vl wo s w0 hB hW hs hl (fun x w1 hx _ => unquote_any x w1 (hxl x hx)) (fun x a h => by rw [textV_of h])) ?_
  rintro _ w2 ⟨rfl, hc, hB2⟩
  have hM := hM.cellSet hB2 hc
  rw [show optV (fun n : List UInt8 => Value.string (bst n)) (Value.string (bst [])) (qGet wo textQ s) = (fun n : List UInt8 => Value.string (bst n)) ((qGet wo textQ s).getD []) from optV_getD (vf := (fun n : List UInt8 => Value.string (bst n))) (z := [])]
  repeat (first | refine gs ?_ | (refine ks ?_; intro w hM))
  exact out0 rfl ⟨hM.ch, hM.blk (b := bR) (by (repeat constructor)), hM.blk (b := b6) (by (repeat constructor))⟩
theorem clTo_any (b5 bR b6 : Nat) (at_ : Int) (fr to_ : List UInt8) (A : Option Addr) (n c : Nat) (bk : Bool) (sk lm : Int) (ct : Bool) (vl : Value) (wo : List (List UInt8)) (s : PS) (w0 : World) (T5 : TypeId) (h5 : Blk w0 b5 [.pointer (some ⟨bR, 0, none⟩)] T5) (hB : Blk w0 bR (rdC vl s) 103) (h6 : Blk w0 b6 (quC at_ fr [] (.slice A n c) bk sk lm ct) 46) (hne : bR ≠ b6) (hn5 : b5 ∉ [bR, b6]) (hW : (Ty.enc eBs).Rd [bR] w0 vl wo) (hs : s.1 ≤ wo.length) (hl : wo.length ≤ 100000) (hxl : ∀ x ∈ wo, x.length ≤ 100000) :
    Calls Tryz.prog 63 #[.string (bst wTo), .func (.func 70) #[] #[.pointer (some ⟨b5, 0, none⟩), .pointer (some ⟨b6, 0, none⟩)], .pointer (some ⟨b5, 0, none⟩)] w0 (Ret fun u w' => Ch [bR, b6] w0 w' ∧ Blk w' bR (rdC vl (qSt wo wTo textQ s)) 103 ∧ ∃ v : List UInt8, (∀ a, qVal wo wTo textQ [] s = some a → v = a) ∧ Blk w' b6 (quC at_ fr v (.slice A n c) bk sk lm ct) 46) := by
  have hn5a : b5 ∉ [bR] := fun h => hn5 (by simp at h; simp [h])
  have h6n : b6 ∉ [bR] := fun h => hne (by simp at h; exact h.symm)
  refine clause_any (Post := fun w' => Ch [bR, b6] w0 w' ∧ Blk w' bR (rdC vl (qSt wo wTo textQ s)) 103 ∧ ∃ v : List UInt8, (∀ a, qVal wo wTo textQ [] s = some a → v = a) ∧ Blk w' b6 (quC at_ fr v (.slice A n c) bk sk lm ct) 46) b5 bR wTo vl wo s 70 Tryz.f70 #[.pointer (some ⟨b5, 0, none⟩), .pointer (some ⟨b6, 0, none⟩)] w0 T5 h5 hB hn5a hW hs hl (fun hq w1 hc hB1 => ?_) (fun hq w1 hc hB1 => ?_)
  · obtain ⟨e0, e1, _, e2⟩ := see_t (α := List UInt8) hq
    refine (thenTo_any b5 bR b6 at_ fr to_ A n c bk sk lm ct vl wo (s.1 + 1, false) w1 T5 (h5.ch hc hn5a) hB1 (h6.ch hc h6n) hne hn5 (hW.ch hc) (by show s.1 + 1 ≤ wo.length; omega) hl hxl).mono fun e w2 ⟨u, he, h1, h2, h3⟩ => ⟨u, he, hc.trans h1 (fun x _ h => by simp at h; simp [h]) (fun x _ h => h), ?_, _, fun a ha => ?_, h3⟩
    · rw [(e2 textQ []).1]; exact h2
    · rw [(e2 textQ []).2] at ha
      rw [ha]
      rfl
  · obtain ⟨_, e2⟩ := see_f (α := List UInt8) hq
    refine ⟨hc.mono (fun x _ h => by simp at h; simp [h]), ?_, [], fun a ha => ?_, h6.ch hc h6n⟩
    · rw [(e2 textQ []).1]; exact hB1
    · rw [(e2 textQ []).2] at ha
      injection ha
set_option maxHeartbeats 8000000 in
theorem thenSk_any (b5 bR b6 : Nat) (at_ : Int) (fr to_ : List UInt8) (A : Option Addr) (n c : Nat) (bk : Bool) (sk lm : Int) (ct : Bool) (vl : Value) (wo : List (List UInt8)) (s : PS) (w0 : World) (T5 : TypeId) (h5 : Blk w0 b5 [.pointer (some ⟨bR, 0, none⟩)] T5) (hB : Blk w0 bR (rdC vl s) 103) (h6 : Blk w0 b6 (quC at_ fr to_ (.slice A n c) bk 0 lm ct) 46) (hne : bR ≠ b6) (hn5 : b5 ∉ [bR, b6]) (hW : (Ty.enc eBs).Rd [bR] w0 vl wo) (hs : s.1 ≤ wo.length) (hl : wo.length ≤ 100000) (hxl : ∀ x ∈ wo, x.length ≤ 100000) :
    Calls Tryz.prog 73 #[.pointer (some ⟨b5, 0, none⟩), .pointer (some ⟨b6, 0, none⟩)] w0 (Ret fun u w' => Ch [bR, b6] w0 w' ∧ Blk w' bR (rdC vl (qAft (qGet wo numI s) s)) 103 ∧ Blk w' b6 (quC at_ fr to_ (.slice A n c) bk ((qGet wo numI s).getD 0) lm ct) 46) := by
  have hM := Mem.take2 hB h6 hne
  refine enter [.pointer (some ⟨b5, 0, none⟩), .pointer (some ⟨b6, 0, none⟩), undef, undef, undef] Tryz.func73 rfl rfl ?_
  repeat (first | refine gs ?_ | (refine ks ?_; intro w hM))
  refine ca (nexti_any numI (fun n : Int => Value.int .i64 n) (fun x => Value.int .i64 ((numI x).getD 0)) 66 Tryz.f66 #[] bR vl wo s w0 hB hW hs hl (fun x w1 hx _ => number_any x w1 (hxl x hx)) (fun x a h => by rw [h]; rfl)) ?_
  rintro _ w2 ⟨rfl, hc, hB2⟩
  have hM := hM.cellSet hB2 hc
  rw [show optV (fun n : Int => Value.int .i64 n) (Value.int .i64 0) (qGet wo numI s) = (fun n : Int => Value.int .i64 n) ((qGet wo numI s).getD 0) from optV_getD (vf := (fun n : Int => Value.int .i64 n)) (z := 0)]
  repeat (first | refine gs ?_ | (refine ks ?_; intro w hM))
  exact out0 rfl ⟨hM.ch, hM.blk (b := bR) (by (repeat constructor)), hM.blk (b := b6) (by (repeat constructor))⟩
theorem clSk_any (b5 bR b6 : Nat) (at_ : Int) (fr to_ : List UInt8) (A : Option Addr) (n c : Nat) (bk : Bool) (sk lm : Int) (ct : Bool) (vl : Value) (wo : List (List UInt8)) (s : PS) (w0 : World) (T5 : TypeId) (h5 : Blk w0 b5 [.pointer (some ⟨bR, 0, none⟩)] T5) (hB : Blk w0 bR (rdC vl s) 103) (h6 : Blk w0 b6 (quC at_ fr to_ (.slice A n c) bk 0 lm ct) 46) (hne : bR ≠ b6) (hn5 : b5 ∉ [bR, b6]) (hW : (Ty.enc eBs).Rd [bR] w0 vl wo) (hs : s.1 ≤ wo.length) (hl : wo.length ≤ 100000) (hxl : ∀ x ∈ wo, x.length ≤ 100000) :
    Calls Tryz.prog 63 #[.string (bst wSkip), .func (.func 73) #[] #[.pointer (some ⟨b5, 0, none⟩), .pointer (some ⟨b6, 0, none⟩)], .pointer (some ⟨b5, 0, none⟩)] w0 (Ret fun u w' => Ch [bR, b6] w0 w' ∧ Blk w' bR (rdC vl (qSt wo wSkip numI s)) 103 ∧ ∃ v : Int, (∀ a, qVal wo wSkip numI 0 s = some a → v = a) ∧ Blk w' b6 (quC at_ fr to_ (.slice A n c) bk v lm ct) 46) := by
  have hn5a : b5 ∉ [bR] := fun h => hn5 (by simp at h; simp [h])
  have h6n : b6 ∉ [bR] := fun h => hne (by simp at h; exact h.symm)
  refine clause_any (Post := fun w' => Ch [bR, b6] w0 w' ∧ Blk w' bR (rdC vl (qSt wo wSkip numI s)) 103 ∧ ∃ v : Int, (∀ a, qVal wo wSkip numI 0 s = some a → v = a) ∧ Blk w' b6 (quC at_ fr to_ (.slice A n c) bk v lm ct) 46) b5 bR wSkip vl wo s 73 Tryz.f73 #[.pointer (some ⟨b5, 0, none⟩), .pointer (some ⟨b6, 0, none⟩)] w0 T5 h5 hB hn5a hW hs hl (fun hq w1 hc hB1 => ?_) (fun hq w1 hc hB1 => ?_)
  · obtain ⟨e0, e1, _, e2⟩ := see_t (α := Int) hq
    refine (thenSk_any b5 bR b6 at_ fr to_ A n c bk sk lm ct vl wo (s.1 + 1, false) w1 T5 (h5.ch hc hn5a) hB1 (h6.ch hc h6n) hne hn5 (hW.ch hc) (by show s.1 + 1 ≤ wo.length; omega) hl hxl).mono fun e w2 ⟨u, he, h1, h2, h3⟩ => ⟨u, he, hc.trans h1 (fun x _ h => by simp at h; simp [h]) (fun x _ h => h), ?_, _, fun a ha => ?_, h3⟩
    · rw [(e2 numI 0).1]; exact h2
    · rw [(e2 numI 0).2] at ha
      rw [ha]
      rfl
  · obtain ⟨_, e2⟩ := see_f (α := Int) hq
    refine ⟨hc.mono (fun x _ h => by simp at h; simp [h]), ?_, 0, fun a ha => ?_, h6.ch hc h6n⟩
    · rw [(e2 numI 0).1]; exact hB1
    · rw [(e2 numI 0).2] at ha
      injection ha
set_option maxHeartbeats 8000000 in
theorem thenLm_any (b5 bR b6 : Nat) (at_ : Int) (fr to_ : List UInt8) (A : Option Addr) (n c : Nat) (bk : Bool) (sk lm : Int) (ct : Bool) (vl : Value) (wo : List (List UInt8)) (s : PS) (w0 : World) (T5 : TypeId) (h5 : Blk w0 b5 [.pointer (some ⟨bR, 0, none⟩)] T5) (hB : Blk w0 bR (rdC vl s) 103) (h6 : Blk w0 b6 (quC at_ fr to_ (.slice A n c) bk sk (-1) ct) 46) (hne : bR ≠ b6) (hn5 : b5 ∉ [bR, b6]) (hW : (Ty.enc eBs).Rd [bR] w0 vl wo) (hs : s.1 ≤ wo.length) (hl : wo.length ≤ 100000) (hxl : ∀ x ∈ wo, x.length ≤ 100000) :
    Calls Tryz.prog 74 #[.pointer (some ⟨b5, 0, none⟩), .pointer (some ⟨b6, 0, none⟩)] w0 (Ret fun u w' => Ch [bR, b6] w0 w' ∧ Blk w' bR (rdC vl (qAft (qGet wo numI s) s)) 103 ∧ Blk w' b6 (quC at_ fr to_ (.slice A n c) bk sk ((qGet wo numI s).getD 0) ct) 46) := by
  have hM := Mem.take2 hB h6 hne
  refine enter [.pointer (some ⟨b5, 0, none⟩), .pointer (some ⟨b6, 0, none⟩), undef, undef, undef] Tryz.func74 rfl rfl ?_
  repeat (first | refine gs ?_ | (refine ks ?_; intro w hM))
  refine ca (nexti_any numI (fun n : Int => Value.int .i64 n) (fun x => Value.int .i64 ((numI x).getD 0)) 66 Tryz.f66 #[] bR vl wo s w0 hB hW hs hl (fun x w1 hx _ => number_any x w1 (hxl x hx)) (fun x a h => by rw [h]; rfl)) ?_
  rintro _ w2 ⟨rfl, hc, hB2⟩
  have hM := hM.cellSet hB2 hc
  rw [show optV (fun n : Int => Value.int .i64 n) (Value.int .i64 0) (qGet wo numI s) = (fun n : Int => Value.int .i64 n) ((qGet wo numI s).getD 0) from optV_getD (vf := (fun n : Int => Value.int .i64 n)) (z := 0)]
  repeat (first | refine gs ?_ | (refine ks ?_; intro w hM))
  exact out0 rfl ⟨hM.ch, hM.blk (b := bR) (by (repeat constructor)), hM.blk (b := b6) (by (repeat constructor))⟩
theorem clLm_any (b5 bR b6 : Nat) (at_ : Int) (fr to_ : List UInt8) (A : Option Addr) (n c : Nat) (bk : Bool) (sk lm : Int) (ct : Bool) (vl : Value) (wo : List (List UInt8)) (s : PS) (w0 : World) (T5 : TypeId) (h5 : Blk w0 b5 [.pointer (some ⟨bR, 0, none⟩)] T5) (hB : Blk w0 bR (rdC vl s) 103) (h6 : Blk w0 b6 (quC at_ fr to_ (.slice A n c) bk sk (-1) ct) 46) (hne : bR ≠ b6) (hn5 : b5 ∉ [bR, b6]) (hW : (Ty.enc eBs).Rd [bR] w0 vl wo) (hs : s.1 ≤ wo.length) (hl : wo.length ≤ 100000) (hxl : ∀ x ∈ wo, x.length ≤ 100000) :
    Calls Tryz.prog 63 #[.string (bst wLimit), .func (.func 74) #[] #[.pointer (some ⟨b5, 0, none⟩), .pointer (some ⟨b6, 0, none⟩)], .pointer (some ⟨b5, 0, none⟩)] w0 (Ret fun u w' => Ch [bR, b6] w0 w' ∧ Blk w' bR (rdC vl (qSt wo wLimit numI s)) 103 ∧ ∃ v : Int, (∀ a, qVal wo wLimit numI (-1) s = some a → v = a) ∧ Blk w' b6 (quC at_ fr to_ (.slice A n c) bk sk v ct) 46) := by
  have hn5a : b5 ∉ [bR] := fun h => hn5 (by simp at h; simp [h])
  have h6n : b6 ∉ [bR] := fun h => hne (by simp at h; exact h.symm)
  refine clause_any (Post := fun w' => Ch [bR, b6] w0 w' ∧ Blk w' bR (rdC vl (qSt wo wLimit numI s)) 103 ∧ ∃ v : Int, (∀ a, qVal wo wLimit numI (-1) s = some a → v = a) ∧ Blk w' b6 (quC at_ fr to_ (.slice A n c) bk sk v ct) 46) b5 bR wLimit vl wo s 74 Tryz.f74 #[.pointer (some ⟨b5, 0, none⟩), .pointer (some ⟨b6, 0, none⟩)] w0 T5 h5 hB hn5a hW hs hl (fun hq w1 hc hB1 => ?_) (fun hq w1 hc hB1 => ?_)
  · obtain ⟨e0, e1, _, e2⟩ := see_t (α := Int) hq
    refine (thenLm_any b5 bR b6 at_ fr to_ A n c bk sk lm ct vl wo (s.1 + 1, false) w1 T5 (h5.ch hc hn5a) hB1 (h6.ch hc h6n) hne hn5 (hW.ch hc) (by show s.1 + 1 ≤ wo.length; omega) hl hxl).mono fun e w2 ⟨u, he, h1, h2, h3⟩ => ⟨u, he, hc.trans h1 (fun x _ h => by simp at h; simp [h]) (fun x _ h => h), ?_, _, fun a ha => ?_, h3⟩
    · rw [(e2 numI (-1)).1]; exact h2
    · rw [(e2 numI (-1)).2] at ha
      rw [ha]
      rfl
  · obtain ⟨_, e2⟩ := see_f (α := Int) hq
    refine ⟨hc.mono (fun x _ h => by simp at h; simp [h]), ?_, (-1), fun a ha => ?_, h6.ch hc h6n⟩
    · rw [(e2 numI (-1)).1]; exact hB1
    · rw [(e2 numI (-1)).2] at ha
      injection ha
end Go.Proofs.YtoimhmphhffelaaGreatDoor
set_option linter.unusedVariables false
set_option linter.unusedSimpArgs false
namespace Go.Proofs.YtoimhmphhffelaaGreatDoor
open Go Go.RowKit Go.Proofs.E
attribute [local irreducible] Go.wpList Go.Code.wp Go.Proofs.E.exec Go.Proofs.E.wpLexG
/-- The two lists of words lie where they lie. -/
def LaidQ (w : World) : Prop := LaidG 0 (fieldsW.map fun x => Value.string (bst x)) w ∧ LaidG 1 (opsW.map fun x => Value.string (bst x)) w
theorem LaidQ.ch {S : List Nat} {w w' : World} (h : LaidQ w) (hc : Ch S w w') (h0 : 0 ∉ S) (h1 : 1 ∉ S) : LaidQ w' := ⟨h.1.ch hc h0, h.2.ch hc h1⟩
theorem LaidQ.fields {w : World} (h : LaidQ w) : (Ty.enc eBs).Rd [] w (.slice (some ⟨0, 0, none⟩) 3 3) fieldsW := LaidG.rd (en := eBs) (xs := fieldsW) h.1 rfl (by decide) [] (by simp)
theorem LaidQ.ops {w : World} (h : LaidQ w) : (Ty.enc eBs).Rd [] w (.slice (some ⟨1, 0, none⟩) 9 9) opsW := LaidG.rd (en := eBs) (xs := opsW) h.2 rfl (by decide) [] (by simp)
set_option maxHeartbeats 16000000 in
theorem qtests_any (bR : Nat) (vl : Value) (wo : List (List UInt8)) (s : PS) (w0 : World) (hL : LaidQ w0) (hg0 : 0 ∉ [bR]) (hg1 : 1 ∉ [bR]) (hB : Blk w0 bR (rdC vl s) 103) (hW : (Ty.enc eBs).Rd [bR] w0 vl wo) (hs : s.1 ≤ wo.length) (hl : wo.length ≤ 100000) (hxl : ∀ x ∈ wo, x.length ≤ 100000) (TS : List TsV) (s5 : PS) (hTS : qTests wo 52 wWhere [] s = (TS, s5)) :
    Calls Tryz.prog 71 #[.pointer (some ⟨bR, 0, none⟩)] w0 (Ret fun u w' => ∃ (tl : List TsV), tl.length = TS.length ∧ (s5.2 = false → tl = TS) ∧ Mem [bR] w0 w' [.cell bR (rdC vl s5) 103, .row eTs 120 u tl]) := by
  have hM := Mem.take hB
  refine enter [.pointer (some ⟨bR, 0, none⟩), undef, undef, undef, undef, undef, undef, undef, undef, undef, undef, undef, undef, undef, undef, undef, undef, undef, undef, undef, undef, undef, undef, undef, undef, undef, undef, undef, undef, undef, undef, undef, undef, undef, undef, undef, undef, undef, undef, undef] Tryz.func71 rfl rfl ?_
  repeat (first | refine gs ?_ | (refine ks ?_; intro w hM))
  have hM := hM.nilRow eTs 120
  
  refine c_loop (fun n l w => ∃ (tl0 tl : List TsV) (sx : PS) (At : Option Addr) (ct : Nat) (jn : List UInt8), (∃ jj : Nat → Value, l = [.pointer (some ⟨bR, 0, none⟩), jj 1, jj 2, .slice At tl.length ct, .string (bst jn), jj 5, jj 6, jj 7, jj 8, jj 9, jj 10, jj 11, jj 12, jj 13, jj 14, jj 15, jj 16, jj 17, jj 18, jj 19, jj 20, jj 21, jj 22, jj 23, jj 24, jj 25, jj 26, jj 27, jj 28, jj 29, jj 30, jj 31, jj 32, jj 33, jj 34, jj 35, jj 36, jj 37, jj 38, jj 39]) ∧ qTests wo n jn tl0 sx = (TS, s5) ∧ tl.length = tl0.length ∧ (sx.2 = false → tl = tl0) ∧ tl0.length + n = 52 ∧ tl0.length ≤ 50 ∧ sx.1 ≤ wo.length ∧ Mem [bR] w0 w [.cell bR (rdC vl sx) 103, .row eTs 120 (.slice At tl.length ct) tl]) 52
    ⟨[], [], s, none, 0, wWhere, exj rfl, hTS, rfl, fun _ => rfl, rfl, by simp, hs, hM.sub (by (repeat (first | exact Go.Proofs.E.Sub.refl _ | exact Go.Proofs.E.Sub.nil | (apply Go.Proofs.E.Sub.cons; (repeat (first | exact Go.Proofs.E.Pick.here | apply Go.Proofs.E.Pick.there))) | apply Go.Proofs.E.Sub.tail)))⟩ ?_
  clear hM hTS hs
  rintro n l w ⟨tl0, tl, sx, At, ct, jn, ⟨jj, rfl⟩, hTS, g1, g2, g3, g4, hzx, hM⟩
  obtain ⟨n, rfl⟩ : ∃ m, n = m + 1 := ⟨n - 1, by omega⟩
  repeat (first | refine gs ?_ | (refine ks ?_; intro w hM))
  refine ca (sees_any bR vl wo sx jn w (hM.blk (b := bR) (by (repeat constructor))) (hW.ch hM.ch) hzx hl) ?_
  rintro _ w2 ⟨rfl, hc, hB5⟩
  have hM := hM.cellSet hB5 hc
  clear hc hB5
  repeat (first | refine gs ?_ | (refine ks ?_; intro w hM))
  cases hq : qSees wo jn sx with
  | false =>
    rw [tests_off hq] at hTS
    rw [(see_f (α := Int) hq).1] at hM
    refine c_condb rfl (fun h => by cases h) (fun _ => ?_)
    repeat (first | refine gs ?_ | (refine ks ?_; intro w hM))
    injection hTS with h1 h2
    subst h1 h2
    exact out1 rfl ⟨tl, g1, g2, hM.sub (by (repeat (first | exact Go.Proofs.E.Sub.refl _ | exact Go.Proofs.E.Sub.nil | (apply Go.Proofs.E.Sub.cons; (repeat (first | exact Go.Proofs.E.Pick.here | apply Go.Proofs.E.Pick.there))) | apply Go.Proofs.E.Sub.tail)))⟩
  | true =>
  obtain ⟨hb, hi, e1, e2⟩ := see_t (α := Int) hq
  rw [e1] at hM
  refine c_condb rfl (fun _ => ?_) (fun h => by cases h)
  repeat (first | refine gs ?_ | (refine ks ?_; intro w hM))
  by_cases h50 : tl0.length = 50
  · rw [decide_eq_true (by omega : (tl.length : Int) = 50)]
    rw [tests_full hq h50] at hTS
    refine c_condb rfl (fun _ => ?_) (fun h => by cases h)
    repeat (first | refine gs ?_ | (refine ks ?_; intro w hM))
    injection hTS with h1 h2
    subst h1 h2
    refine out1 rfl ⟨tl, g1, (fun h => by cases h), ?_⟩
    have e9 : ((sx.1 + 1 : Nat) : Int) - 1 = (sx.1 : Int) := by omega
    simp only [e9] at hM
    exact hM.sub (by (repeat (first | exact Go.Proofs.E.Sub.refl _ | exact Go.Proofs.E.Sub.nil | (apply Go.Proofs.E.Sub.cons; (repeat (first | exact Go.Proofs.E.Pick.here | apply Go.Proofs.E.Pick.there))) | apply Go.Proofs.E.Sub.tail)))
  rw [decide_eq_false (by omega : ¬ (tl.length : Int) = 50)]
  rw [tests_step hq h50] at hTS
  refine c_condb rfl (fun h => by cases h) (fun _ => ?_)
  obtain ⟨s1, hs1⟩ : ∃ x : PS, (sx.1 + 1, false) = x := ⟨_, rfl⟩
  have hz1 : s1.1 ≤ wo.length := by rw [← hs1]; exact hi
  rw [hs1] at hM hTS
  obtain ⟨o1, ho1⟩ : ∃ o, qGet wo (oneB fieldsW) s1 = o := ⟨_, rfl⟩
  obtain ⟨s2, hs2⟩ : ∃ o, qAft o1 s1 = o := ⟨_, rfl⟩
  obtain ⟨o2, ho2⟩ : ∃ o, qGet wo (oneB opsW) s2 = o := ⟨_, rfl⟩
  obtain ⟨s3, hs3⟩ : ∃ o, qAft o2 s2 = o := ⟨_, rfl⟩
  obtain ⟨o3, ho3⟩ : ∃ o, qGet wo textQ s3 = o := ⟨_, rfl⟩
  obtain ⟨s4, hs4⟩ : ∃ o, qAft o3 s3 = o := ⟨_, rfl⟩
  have hz2 : s2.1 ≤ wo.length := by rw [← hs2, ← ho1]; exact aft_le hz1
  have hz3 : s3.1 ≤ wo.length := by rw [← hs3, ← ho2]; exact aft_le hz2
  have hz4 : s4.1 ≤ wo.length := by rw [← hs4, ← ho3]; exact aft_le hz3
  have hte := test_eq ho1 hs2 ho2 hs3 ho3 hs4
  repeat (first | refine gs ?_ | (refine ks ?_; intro w hM))
  (try ((with_reducible apply is_gd); first | refine gt ?_ | refine gf ?_ | refine gu ?_)); refine wl_val (r_cut_arr0 (e := 9) rfl) ?_
  refine ca (one_any _ w2) ?_
  rintro _ w3 ⟨b1, rfl, hN⟩
  have hM := hM.join hN (fun a ha => by simp only [List.mem_singleton] at ha; subst ha; trivial)
  clear hN
  have hM : Mem [bR] w0 w3 [.cell b1 [.slice (some ⟨0, 0, none⟩) 3 3] 100, .cell bR (rdC vl s1) 103, .row eTs 120 (.slice At tl.length ct) tl] := hM.sub (by (repeat (first | exact Go.Proofs.E.Sub.refl _ | exact Go.Proofs.E.Sub.nil | (apply Go.Proofs.E.Sub.cons; (repeat (first | exact Go.Proofs.E.Pick.here | apply Go.Proofs.E.Pick.there))) | apply Go.Proofs.E.Sub.tail)))
  refine ca (nexti_any (oneB fieldsW) (fun n : Int => Value.int .i64 n) (fun x => .int .i64 (idxB fieldsW x)) 130 Tryz.f130 #[.pointer (some ⟨b1, 0, none⟩)] bR vl wo s1 w3 (hM.blk (b := bR) (by (repeat constructor))) (hW.ch hM.ch) hz1 hl
    (fun x w1 _ hc => one1_any b1 _ 100 fieldsW x w1 ((hM.blk (b := b1) (by (repeat constructor))).ch hc (hM.nin (b := bR) (c := b1) (by (repeat constructor)) (by (repeat constructor)))) ((hL.ch hM.ch hg0 hg1).ch hc hg0 hg1).fields (by decide))
    (fun x a h => by unfold oneB at h; split at h; injection h with h; rw [h]; cases h)) ?_
  rintro _ w4 ⟨rfl, hc, hB4⟩
  have hM := hM.cellSet hB4 hc
  rw [ho1, hs2] at hM
  rw [ho1, show optV (fun n : Int => Value.int .i64 n) (.int .i64 0) o1 = .int .i64 (o1.getD 0) from optV_getD (vf := fun n : Int => Value.int .i64 n) (z := (0 : Int))]
  repeat (first | refine gs ?_ | (refine ks ?_; intro w hM))
  (try ((with_reducible apply is_gd); first | refine gt ?_ | refine gf ?_ | refine gu ?_)); refine wl_val (r_bldS (vs := [(0, .int .i64 (o1.getD 0))]) (tsC (o1.getD 0, 0, [])) (z := tsC (0, 0, [])) (place := (#[(0, 1), (1, 1), (2, 1)][·]?)) (by intro ps; kernel_rfl) rfl (.cons rfl rfl (by simp) (.nil rfl))) ?_
  refine kal hM (fun w5 b5 hM => ?_)
  have hM : Mem [bR] w0 w5 [.cell b5 (tsC (0, 0, [])) 120, .cell bR (rdC vl s2) 103, .row eTs 120 (.slice At tl.length ct) tl] := hM.sub (by (repeat (first | exact Go.Proofs.E.Sub.refl _ | exact Go.Proofs.E.Sub.nil | (apply Go.Proofs.E.Sub.cons; (repeat (first | exact Go.Proofs.E.Pick.here | apply Go.Proofs.E.Pick.there))) | apply Go.Proofs.E.Sub.tail)))
  refine kstw (vs := tsC (o1.getD 0, 0, [])) hM (fun w5 hM => ?_)
  repeat (first | refine gs ?_ | (refine ks ?_; intro w hM))
  (try ((with_reducible apply is_gd); first | refine gt ?_ | refine gf ?_ | refine gu ?_)); refine wl_val (r_cut_arr0 (e := 9) rfl) ?_
  refine ca (one_any _ w5) ?_
  rintro _ w6 ⟨b2, rfl, hN⟩
  have hM := hM.join hN (fun a ha => by simp only [List.mem_singleton] at ha; subst ha; trivial)
  clear hN
  have hM : Mem [bR] w0 w6 [.cell b2 [.slice (some ⟨1, 0, none⟩) 9 9] 100, .cell b5 (tsC (o1.getD 0, 0, [])) 120, .cell bR (rdC vl s2) 103, .row eTs 120 (.slice At tl.length ct) tl] := hM.sub (by (repeat (first | exact Go.Proofs.E.Sub.refl _ | exact Go.Proofs.E.Sub.nil | (apply Go.Proofs.E.Sub.cons; (repeat (first | exact Go.Proofs.E.Pick.here | apply Go.Proofs.E.Pick.there))) | apply Go.Proofs.E.Sub.tail)))
  refine ca (nexti_any (oneB opsW) (fun n : Int => Value.int .i64 n) (fun x => .int .i64 (idxB opsW x)) 130 Tryz.f130 #[.pointer (some ⟨b2, 0, none⟩)] bR vl wo s2 w6 (hM.blk (b := bR) (by (repeat constructor))) (hW.ch hM.ch) hz2 hl
    (fun x w1 _ hc => one1_any b2 _ 100 opsW x w1 ((hM.blk (b := b2) (by (repeat constructor))).ch hc (hM.nin (b := bR) (c := b2) (by (repeat constructor)) (by (repeat constructor)))) ((hL.ch hM.ch hg0 hg1).ch hc hg0 hg1).ops (by decide))
    (fun x a h => by unfold oneB at h; split at h; injection h with h; rw [h]; cases h)) ?_
  rintro _ w7 ⟨rfl, hc, hB4⟩
  have hM := hM.cellSet hB4 hc
  rw [ho2, hs3] at hM
  rw [ho2, show optV (fun n : Int => Value.int .i64 n) (.int .i64 0) o2 = .int .i64 (o2.getD 0) from optV_getD (vf := fun n : Int => Value.int .i64 n) (z := (0 : Int))]
  repeat (first | refine gs ?_ | (refine ks ?_; intro w hM))
  refine ca (nexts_any textQ (fun n : List UInt8 => Value.string (bst n)) (fun x => Value.string (bst (textV x))) 69 Tryz.f69 #[] bR vl wo s3 _ (hM.blk (b := bR) (by (repeat constructor))) (hW.ch hM.ch) hz3 hl
    (fun x w1 hx _ => unquote_any x w1 (hxl x hx)) (fun x a h => by rw [textV_of h])) ?_
  rintro _ w8 ⟨rfl, hc, hB4⟩
  have hM := hM.cellSet hB4 hc
  rw [ho3, hs4] at hM
  rw [ho3, show optV (fun n : List UInt8 => Value.string (bst n)) (.string (bst [])) o3 = .string (bst (o3.getD [])) from optV_getD (vf := fun n : List UInt8 => Value.string (bst n)) (z := ([] : List UInt8))]
  repeat (first | refine gs ?_ | (refine ks ?_; intro w hM))
  refine kpu (o1.getD 0, o2.getD 0, o3.getD []) hM (fun u v' w hM => ?_)
  obtain ⟨A7, c7, rfl, _⟩ := Own.form (hM.row0 (v := v') (by (repeat constructor)))
  repeat (first | refine gs ?_ | (refine ks ?_; intro w hM))
  rw [hte] at hTS
  have ht : ∀ a, (qTest wo s1).1 = some a → (o1.getD 0, o2.getD 0, o3.getD []) = a := fun a ha => by
    rw [hte] at ha
    cases o1 with
    | none => cases ha
    | some a1 =>
      cases o2 with
      | none => cases ha
      | some a2 =>
        cases o3 with
        | none => cases ha
        | some a3 => injection ha
  obtain ⟨k1, k2⟩ := test_val (b := true) ht g1 (g2 hb)
  rw [hte] at k1 k2
  exact x_goes n rfl (by omega) ⟨_, tl ++ [(o1.getD 0, o2.getD 0, o3.getD [])], s4, A7, c7, wAnd, exj rfl, hTS, k1, k2, by rw [List.length_append, List.length_singleton]; omega, by rw [List.length_append, List.length_singleton]; omega, hz4, hM.sub (by (repeat (first | exact Go.Proofs.E.Sub.refl _ | exact Go.Proofs.E.Sub.nil | (apply Go.Proofs.E.Sub.cons; (repeat (first | exact Go.Proofs.E.Pick.here | apply Go.Proofs.E.Pick.there))) | apply Go.Proofs.E.Sub.tail)))⟩
end Go.Proofs.YtoimhmphhffelaaGreatDoor
set_option linter.unusedVariables false
set_option linter.unusedSimpArgs false
namespace Go.Proofs.YtoimhmphhffelaaGreatDoor
open Go Go.RowKit Go.Proofs.E
attribute [local irreducible] Go.wpList Go.Code.wp Go.Proofs.E.exec Go.Proofs.E.wpLexG
theorem seeB_any (bR b6 : Nat) (at_ : Int) (fr to_ : List UInt8) (A : Option Addr) (n c : Nat) (sk lm : Int) (ct : Bool) (w0 : World) (h6 : Blk w0 b6 (quC at_ fr to_ (.slice A n c) false sk lm ct) 46) :
    Calls Tryz.prog 72 #[.pointer (some ⟨b6, 0, none⟩)] w0 (Ret fun u w' => Ch [b6] w0 w' ∧ Blk w' b6 (quC at_ fr to_ (.slice A n c) true sk lm ct) 46) := by
  have hM := Mem.take h6
  refine enter [.pointer (some ⟨b6, 0, none⟩), undef] Tryz.func72 rfl rfl ?_
  repeat (first | refine gs ?_ | (refine ks ?_; intro w hM))
  exact out0 rfl ⟨hM.ch, hM.blk (b := b6) (by (repeat constructor))⟩
theorem head_next {wo : List (List UInt8)} : decide ((qGet wo (oneB headsW) (0, false)).getD 0 = 2) = decide (qGet wo (oneB headsW) (0, false) = some 2) := by
  cases h : qGet wo (oneB headsW) (0, false) with
  | none => rfl
  | some a => simp
set_option maxHeartbeats 32000000 in
theorem qparse_any (s : List UInt8) (w0 : World) (hL : LaidQ w0) (hs0 : s.length ≤ 9223372036854775807) :
    Calls Tryz.prog 16 #[.string (bst s)] w0 (Ret fun u w' => ParsePost 120 s w0 u w') := by
  have hM := Mem.start w0
  have hg0 := hL.1.lt
  have hg1 := hL.2.lt
  refine enter [.string (bst s), undef, undef, undef, undef, undef, undef, undef, undef, undef, undef, undef, undef, undef, undef, undef, undef, undef, undef, undef, undef, undef, undef, undef, undef, undef, undef, undef, undef, undef, undef, undef, undef, undef, undef, undef, undef, undef, undef, undef, undef, undef, undef, undef, undef, undef, undef, undef, undef, undef, undef, undef, undef, undef, undef, undef, undef, undef, undef, undef, undef, undef, undef, undef, undef, undef, undef, undef, undef, undef] Tryz.func16 rfl rfl ?_
  repeat (first | refine gs ?_ | (refine ks ?_; intro w hM))
  refine kal hM (fun w b2 hM => ?_)
  have hM : Mem [] w0 w [.cell b2 (quC 0 [] [] (.slice none 0 0) false 0 0 false) 46] := hM
  repeat (first | refine gs ?_ | (refine ks ?_; intro w hM))
  by_cases q1 : 2000 < s.length
  · rw [decide_eq_true (by omega : (2000 : Int) < (s.length : Int))]
    refine c_condb rfl (fun _ => ?_) (fun h => by cases h)
    repeat (first | refine gs ?_ | (refine ks ?_; intro w hM))
    (try ((with_reducible apply is_gd); first | refine gt ?_ | refine gf ?_ | refine gu ?_)); refine wl_val (r_bldS (vs := []) (quC 0 [] [] (.slice none 0 0) false 0 0 false) (z := quC 0 [] [] (.slice none 0 0) false 0 0 false) (place := (#[(0, 1), (1, 1), (2, 1), (3, 1), (4, 1), (5, 1), (6, 1), (7, 1)][·]?)) (by intro ps; kernel_rfl) rfl (.nil rfl)) ?_
    repeat (first | refine gs ?_ | (refine ks ?_; intro w hM))
    refine koc12 hM rfl ⟨.slice none 0 0, ?_, ?_⟩
    · rw [parse_long q1]; rfl
    · rw [parse_long q1]
      exact hM.nil.nilRow _ _
  rw [decide_eq_false (by omega : ¬ (2000 : Int) < (s.length : Int))]
  refine c_condb rfl (fun h => by cases h) (fun _ => ?_)
  repeat (first | refine gs ?_ | (refine ks ?_; intro w hM))
  refine kcr hM (qsplit_any s w (by omega)) (fun vW w hM => ?_)
  obtain ⟨Aw, cw, rfl, _⟩ := Own.form (hM.row (v := vW) (by (repeat constructor)))
  obtain ⟨hwl, hwx⟩ := words_len s
  have hpq : parseQ s = if (st8 (wordsB s)).2 = true ∨ (st8 (wordsB s)).1 < (wordsB s).length then (zeroQ, (st8 (wordsB s)).1 + 1, 15) else (qAll (wordsB s), 0, 0) := by
    unfold parseQ
    rw [if_neg (by omega)]
  have hwx : ∀ x ∈ wordsB s, x.length ≤ 100000 := fun x hx => by have := hwx x hx; omega
  have hwl : (wordsB s).length ≤ 2000 := by omega
  generalize wordsB s = wo at hM hwl hwx hpq
  repeat (first | refine gs ?_ | (refine ks ?_; intro w hM))
  (try ((with_reducible apply is_gd); first | refine gt ?_ | refine gf ?_ | refine gu ?_)); refine wl_val (r_bldS (vs := [(0, .slice Aw wo.length cw)]) (rdC (.slice Aw wo.length cw) (0, false)) (z := rdC (.slice none 0 0) (0, false)) (place := (#[(0, 1), (1, 1), (2, 1)][·]?)) (by intro ps; kernel_rfl) rfl (.cons rfl rfl (by simp) (.nil rfl))) ?_
  refine kbx (v := .agg (rdC (.slice Aw wo.length cw) (0, false)).toArray) hM (fun w bR hM => ?_)
  repeat (first | refine gs ?_ | (refine ks ?_; intro w hM))
  refine kal hM (fun w b5 hM => ?_)
  have hM : Mem [] w0 w [.cell b5 [.pointer none] 99, .cell bR (rdC (.slice Aw wo.length cw) (0, false)) 103, .row eBs 9 (.slice Aw wo.length cw) wo, .cell b2 (quC 0 [] [] (.slice none 0 0) false 0 0 false) 46] := hM
  repeat (first | refine gs ?_ | (refine ks ?_; intro w hM))
  (try ((with_reducible apply is_gd); first | refine gt ?_ | refine gf ?_ | refine gu ?_)); refine wl_val (r_bldS (vs := [(0, .int .i64 (-1)), (6, .int .i64 (-1))]) (quC (-1) [] [] (.slice none 0 0) false 0 (-1) false) (z := quC 0 [] [] (.slice none 0 0) false 0 0 false) (place := (#[(0, 1), (1, 1), (2, 1), (3, 1), (4, 1), (5, 1), (6, 1), (7, 1)][·]?)) (by intro ps; kernel_rfl) rfl (.cons rfl rfl (by simp) (.cons rfl rfl (by simp [spl, Value.cells]) (.nil rfl)))) ?_
  refine kal hM (fun w b6 hM => ?_)
  refine kstw (vs := quC (-1) [] [] (.slice none 0 0) false 0 (-1) false) hM (fun w hM => ?_)
  have hM : Mem [] w0 w (.cell b6 (quC (-1) [] [] (.slice none 0 0) false 0 (-1) false) 46 :: .cell bR (rdC (.slice Aw wo.length cw) (0, false)) 103 :: .cell b5 [.pointer (some ⟨bR, 0, none⟩)] 99 :: .row eBs 9 (.slice Aw wo.length cw) wo :: .cell b2 (quC 0 [] [] (.slice none 0 0) false 0 0 false) 46 :: []) := hM.sub (by (repeat (first | exact Go.Proofs.E.Sub.refl _ | exact Go.Proofs.E.Sub.nil | (apply Go.Proofs.E.Sub.cons; (repeat (first | exact Go.Proofs.E.Pick.here | apply Go.Proofs.E.Pick.there))) | apply Go.Proofs.E.Sub.tail)))
  have hgR : w0.heap.size ≤ bR := hM.ge (b := bR) (by (repeat constructor))
  have hgs0 : 0 ∉ [bR] := fun h => by simp only [List.mem_singleton] at h; omega
  have hgs1 : 1 ∉ [bR] := fun h => by simp only [List.mem_singleton] at h; omega
  have hne : bR ≠ b6 := fun e => hM.nin (b := b6) (c := bR) (by (repeat constructor)) (by (repeat constructor)) (by simp [e])
  have hn5 : b5 ∉ [bR, b6] := fun h => by
    simp only [List.mem_cons, List.not_mem_nil, or_false] at h
    rcases h with rfl | rfl
    · exact hM.nin (b := b5) (c := b5) (by (repeat constructor)) (by (repeat constructor)) (by simp)
    · exact hM.nin (b := b5) (c := b5) (by (repeat constructor)) (by (repeat constructor)) (by simp)
  repeat (first | refine gs ?_ | (refine ks ?_; intro w hM))
  refine kbs (en := eBs) (vs := [.string (bst []), .string (bst wGet), .string (bst wCount)]) headsW hM (fun w bh hM => ?_)
  refine ca (one_any _ w) ?_
  rintro _ w3 ⟨b1, rfl, hN⟩
  have hM := hM.join hN (fun a ha => by simp only [List.mem_singleton] at ha; subst ha; trivial)
  clear hN
  repeat (first | refine gs ?_ | (refine ks ?_; intro w hM))
  have hW := hM.rowRd1 (en := eBs) (v := .slice Aw wo.length cw) (xs := wo) (b := bR) (by omega)
  have hH := hM.rowRd1 (en := eBs) (v := .slice (some ⟨bh, 0, none⟩) 3 3) (xs := headsW) (b := bR) (by decide)
  refine ca (nexti_any (oneB headsW) (fun n : Int => Value.int .i64 n) (fun x => .int .i64 (idxB headsW x)) 130 Tryz.f130 #[.pointer (some ⟨b1, 0, none⟩)] bR (.slice Aw wo.length cw) wo (0, false) _ (hM.blk (b := bR) (by (repeat constructor))) hW (Nat.zero_le _) (by omega)
    (fun x w1 _ hc => one1_any b1 (.slice (some ⟨bh, 0, none⟩) 3 3) 100 headsW x w1 ((hM.blk (b := b1) (by (repeat constructor))).ch hc (hM.nin (b := bR) (c := b1) (by (repeat constructor)) (by (repeat constructor)))) (hH.ch hc).off (by decide))
    (fun x a h => by unfold oneB at h; split at h; injection h with h; rw [h]; cases h)) ?_
  rintro _ w4 ⟨rfl, hc, hB4⟩
  have hM := hM.cellSet hB4 hc
  rw [show qAft (qGet wo (oneB headsW) (0, false)) (0, false) = st1 wo from rfl] at hM
  rw [show optV (fun n : Int => Value.int .i64 n) (.int .i64 0) (qGet wo (oneB headsW) (0, false)) = .int .i64 ((qGet wo (oneB headsW) (0, false)).getD 0) from optV_getD (vf := fun n : Int => Value.int .i64 n) (z := (0 : Int))]
  clear hW hH hc hB4
  repeat (first | refine gs ?_ | (refine ks ?_; intro w hM))
  rw [head_next] at hM
  obtain ⟨cnt, hcnt⟩ : ∃ c, decide (qGet wo (oneB headsW) (0, false) = some 2) = c := ⟨_, rfl⟩
  rw [hcnt] at hM
  have hz1 : (st1 wo).1 ≤ wo.length := aft_le (Nat.zero_le _)
  have hz2 : (st2 wo).1 ≤ wo.length := st_le hz1
  have hz3 : (st3 wo).1 ≤ wo.length := st_le hz2
  have hz4 : (st4 wo).1 ≤ wo.length := st_le hz3
  have hM : Mem [] w0 _ (.cell b6 (quC (-1) [] [] (.slice none 0 0) false 0 (-1) cnt) 46 :: .cell bR (rdC (.slice Aw wo.length cw) (st1 wo)) 103 :: .cell b5 [.pointer (some ⟨bR, 0, none⟩)] 99 :: .row eBs 9 (.slice Aw wo.length cw) wo :: .cell b2 (quC 0 [] [] (.slice none 0 0) false 0 0 false) 46 :: []) := hM.sub (by (repeat (first | exact Go.Proofs.E.Sub.refl _ | exact Go.Proofs.E.Sub.nil | (apply Go.Proofs.E.Sub.cons; (repeat (first | exact Go.Proofs.E.Pick.here | apply Go.Proofs.E.Pick.there))) | apply Go.Proofs.E.Sub.tail)))
  (try ((with_reducible apply is_gd); first | refine gt ?_ | refine gf ?_ | refine gu ?_)); refine wl_val (r_makeFunc (cs := [.tmp 5])) ?_
  repeat (first | refine gs ?_ | (refine ks ?_; intro w hM))
  (try ((with_reducible apply is_gd); first | refine gt ?_ | refine gf ?_ | refine gu ?_)); refine wl_val (r_makeFunc (cs := [.tmp 5, .tmp 6])) ?_
  refine kcd (f := 63) (vs := [.string (bst wAt), .func (.func 65) #[] #[.pointer (some ⟨b5, 0, none⟩), .pointer (some ⟨b6, 0, none⟩)]]) (lb := #[.pointer (some ⟨b5, 0, none⟩)]) (clAt_any b5 bR b6 0 [] [] none 0 0 false 0 (-1) cnt (.slice Aw wo.length cw) wo (st1 wo) _ 99 (hM.blk (b := b5) (by (repeat constructor))) (hM.blk (b := bR) (by (repeat constructor))) (hM.blk (b := b6) (by (repeat constructor))) hne hn5 (hM.rowRd1 (en := eBs) (v := .slice Aw wo.length cw) (xs := wo) (b := bR) (by omega)) (by omega) (by omega) hwx) ?_
  rintro _ wx ⟨hc, hB1, av, hav, hB2⟩
  have hM := hM.cellSet2 hB1 hB2 hc
  have hM : Mem [] w0 wx (.cell b6 (quC av [] [] (.slice none 0 0) false 0 (-1) cnt) 46 :: .cell bR (rdC (.slice Aw wo.length cw) (st2 wo)) 103 :: .cell b5 [.pointer (some ⟨bR, 0, none⟩)] 99 :: .row eBs 9 (.slice Aw wo.length cw) wo :: .cell b2 (quC 0 [] [] (.slice none 0 0) false 0 0 false) 46 :: []) := hM.sub (by (repeat (first | exact Go.Proofs.E.Sub.refl _ | exact Go.Proofs.E.Sub.nil | (apply Go.Proofs.E.Sub.cons; (repeat (first | exact Go.Proofs.E.Pick.here | apply Go.Proofs.E.Pick.there))) | apply Go.Proofs.E.Sub.tail)))
  clear hc hB1 hB2
  repeat (first | refine gs ?_ | (refine ks ?_; intro w hM))
  (try ((with_reducible apply is_gd); first | refine gt ?_ | refine gf ?_ | refine gu ?_)); refine wl_val (r_makeFunc (cs := [.tmp 5, .tmp 6])) ?_
  refine kcd (f := 63) (vs := [.string (bst wFrom), .func (.func 67) #[] #[.pointer (some ⟨b5, 0, none⟩), .pointer (some ⟨b6, 0, none⟩)]]) (lb := #[.pointer (some ⟨b5, 0, none⟩)]) (clFr_any b5 bR b6 av [] [] none 0 0 false 0 (-1) cnt (.slice Aw wo.length cw) wo (st2 wo) _ 99 (hM.blk (b := b5) (by (repeat constructor))) (hM.blk (b := bR) (by (repeat constructor))) (hM.blk (b := b6) (by (repeat constructor))) hne hn5 (hM.rowRd1 (en := eBs) (v := .slice Aw wo.length cw) (xs := wo) (b := bR) (by omega)) (by omega) (by omega) hwx) ?_
  rintro _ wx ⟨hc, hB1, fv, hfv, hB2⟩
  have hM := hM.cellSet2 hB1 hB2 hc
  have hM : Mem [] w0 wx (.cell b6 (quC av fv [] (.slice none 0 0) false 0 (-1) cnt) 46 :: .cell bR (rdC (.slice Aw wo.length cw) (st3 wo)) 103 :: .cell b5 [.pointer (some ⟨bR, 0, none⟩)] 99 :: .row eBs 9 (.slice Aw wo.length cw) wo :: .cell b2 (quC 0 [] [] (.slice none 0 0) false 0 0 false) 46 :: []) := hM.sub (by (repeat (first | exact Go.Proofs.E.Sub.refl _ | exact Go.Proofs.E.Sub.nil | (apply Go.Proofs.E.Sub.cons; (repeat (first | exact Go.Proofs.E.Pick.here | apply Go.Proofs.E.Pick.there))) | apply Go.Proofs.E.Sub.tail)))
  clear hc hB1 hB2
  repeat (first | refine gs ?_ | (refine ks ?_; intro w hM))
  (try ((with_reducible apply is_gd); first | refine gt ?_ | refine gf ?_ | refine gu ?_)); refine wl_val (r_makeFunc (cs := [.tmp 5, .tmp 6])) ?_
  refine kcd (f := 63) (vs := [.string (bst wTo), .func (.func 70) #[] #[.pointer (some ⟨b5, 0, none⟩), .pointer (some ⟨b6, 0, none⟩)]]) (lb := #[.pointer (some ⟨b5, 0, none⟩)]) (clTo_any b5 bR b6 av fv [] none 0 0 false 0 (-1) cnt (.slice Aw wo.length cw) wo (st3 wo) _ 99 (hM.blk (b := b5) (by (repeat constructor))) (hM.blk (b := bR) (by (repeat constructor))) (hM.blk (b := b6) (by (repeat constructor))) hne hn5 (hM.rowRd1 (en := eBs) (v := .slice Aw wo.length cw) (xs := wo) (b := bR) (by omega)) (by omega) (by omega) hwx) ?_
  rintro _ wx ⟨hc, hB1, tv, htv, hB2⟩
  have hM := hM.cellSet2 hB1 hB2 hc
  have hM : Mem [] w0 wx (.cell b6 (quC av fv tv (.slice none 0 0) false 0 (-1) cnt) 46 :: .cell bR (rdC (.slice Aw wo.length cw) (st4 wo)) 103 :: .cell b5 [.pointer (some ⟨bR, 0, none⟩)] 99 :: .row eBs 9 (.slice Aw wo.length cw) wo :: .cell b2 (quC 0 [] [] (.slice none 0 0) false 0 0 false) 46 :: []) := hM.sub (by (repeat (first | exact Go.Proofs.E.Sub.refl _ | exact Go.Proofs.E.Sub.nil | (apply Go.Proofs.E.Sub.cons; (repeat (first | exact Go.Proofs.E.Pick.here | apply Go.Proofs.E.Pick.there))) | apply Go.Proofs.E.Sub.tail)))
  clear hc hB1 hB2
  repeat (first | refine gs ?_ | (refine ks ?_; intro w hM))
  obtain ⟨TS, s5, hTS⟩ : ∃ TS s5, qTests wo 52 wWhere [] (st4 wo) = (TS, s5) := ⟨_, _, rfl⟩
  have h5e : st5 wo = s5 := by unfold st5; rw [hTS]
  have hM : Mem [] w0 _ (.cell bR (rdC (.slice Aw wo.length cw) (st4 wo)) 103 :: .cell b6 (quC av fv tv (.slice none 0 0) false 0 (-1) cnt) 46 :: .cell b5 [.pointer (some ⟨bR, 0, none⟩)] 99 :: .row eBs 9 (.slice Aw wo.length cw) wo :: .cell b2 (quC 0 [] [] (.slice none 0 0) false 0 0 false) 46 :: []) := hM.sub (by (repeat (first | exact Go.Proofs.E.Sub.refl _ | exact Go.Proofs.E.Sub.nil | (apply Go.Proofs.E.Sub.cons; (repeat (first | exact Go.Proofs.E.Pick.here | apply Go.Proofs.E.Pick.there))) | apply Go.Proofs.E.Sub.tail)))
  refine ca (qtests_any bR (.slice Aw wo.length cw) wo (st4 wo) _ (hL.ch hM.ch (by simp) (by simp)) hgs0 hgs1 (hM.blk (b := bR) (by (repeat constructor))) (hM.rowRd1 (en := eBs) (v := .slice Aw wo.length cw) (xs := wo) (b := bR) (by omega)) (by omega) (by omega) hwx TS s5 hTS) ?_
  rintro vt wx ⟨tl, htl, htl2, hK⟩
  have hM := hM.joinO hK (fun a ha => by simp only [List.mem_singleton] at ha; subst ha; trivial)
  clear hK
  obtain ⟨At, ct, rfl, _⟩ := Own.form (hM.row (v := vt) (by (repeat constructor)))
  have hz5 : s5.1 ≤ wo.length := by
    have := tests_le (wo := wo) (n := 52) (j := wWhere) (l := []) hz4
    rw [hTS] at this
    exact this
  repeat (first | refine gs ?_ | (refine ks ?_; intro w hM))
  have hM : Mem [] w0 _ (.cell b6 (quC av fv tv (.slice At tl.length ct) false 0 (-1) cnt) 46 :: .cell bR (rdC (.slice Aw wo.length cw) s5) 103 :: .cell b5 [.pointer (some ⟨bR, 0, none⟩)] 99 :: .row eBs 9 (.slice Aw wo.length cw) wo :: .cell b2 (quC 0 [] [] (.slice none 0 0) false 0 0 false) 46 :: .row eTs 120 (.slice At tl.length ct) tl :: []) := hM.sub (by (repeat (first | exact Go.Proofs.E.Sub.refl _ | exact Go.Proofs.E.Sub.nil | (apply Go.Proofs.E.Sub.cons; (repeat (first | exact Go.Proofs.E.Pick.here | apply Go.Proofs.E.Pick.there))) | apply Go.Proofs.E.Sub.tail)))
  have h6e : st6 wo = seeS wo wBack s5 := by
    unfold st6 seeS
    rw [h5e]
    cases hq : qSees wo wBack s5 with
    | false => rfl
    | true => rw [if_pos rfl, if_pos rfl, (see_t (α := Int) hq).1]
  obtain ⟨bk, hbk⟩ : ∃ b, qSees wo wBack s5 = b := ⟨_, rfl⟩
  have hz6 : (st6 wo).1 ≤ wo.length := by
    rw [h6e]
    cases hq : qSees wo wBack s5 with
    | false => rw [(see_f (α := Int) hq).1]; exact hz5
    | true => rw [(see_t (α := Int) hq).2.2.1]; exact (see_t (α := Int) hq).2.1
  have hz7 : (st7 wo).1 ≤ wo.length := st_le hz6
  have hz8 : (st8 wo).1 ≤ wo.length := st_le hz7
  (try ((with_reducible apply is_gd); first | refine gt ?_ | refine gf ?_ | refine gu ?_)); refine wl_val (r_makeFunc (cs := [.tmp 6])) ?_
  obtain ⟨wz, hwz⟩ : ∃ wz, wz = wx := ⟨_, rfl⟩
  have hB6 := hM.blk (b := b6) (by (repeat constructor))
  have h6n : b6 ∉ [bR] := fun h => hne (by simp at h; exact h.symm)
  have hn5a : b5 ∉ [bR] := fun h => hn5 (by simp at h; simp [h])
  refine kcd (f := 63) (vs := [.string (bst wBack), .func (.func 72) #[] #[.pointer (some ⟨b6, 0, none⟩)]]) (lb := #[.pointer (some ⟨b5, 0, none⟩)]) (clause_any (Post := fun w' => Ch [bR, b6] _ w' ∧ Blk w' bR (rdC (.slice Aw wo.length cw) (st6 wo)) 103 ∧ Blk w' b6 (quC av fv tv (.slice At tl.length ct) bk 0 (-1) cnt) 46) b5 bR wBack (.slice Aw wo.length cw) wo s5 72 Tryz.f72 #[.pointer (some ⟨b6, 0, none⟩)] _ 99 (hM.blk (b := b5) (by (repeat constructor))) (hM.blk (b := bR) (by (repeat constructor))) hn5a (hM.rowRd1 (en := eBs) (v := .slice Aw wo.length cw) (xs := wo) (b := bR) (by omega)) (by omega) (by omega)
    (fun hq w1 hc hB1 => (seeB_any bR b6 av fv tv At tl.length ct 0 (-1) cnt w1 (hB6.ch hc h6n)).mono fun e w2 ⟨u, he, h1, h2⟩ => ⟨u, he, hc.trans h1 (fun x _ h => by simp at h; simp [h]) (fun x _ h => by simp at h; simp [h]), by rw [h6e, (see_t (α := Int) hq).2.2.1]; exact hB1.ch h1 (fun h => hne (by simpa using h)), by rw [← hbk, hq]; exact h2⟩)
    (fun hq w1 hc hB1 => ⟨hc.mono (fun x _ h => by simp at h; simp [h]), by rw [h6e, (see_f (α := Int) hq).1]; exact hB1, by rw [← hbk, hq]; exact hB6.ch hc h6n⟩)) ?_
  rintro _ wy ⟨hc, hB1, hB2⟩
  have hM := hM.cellSet2 hB1 hB2 hc
  have hM : Mem [] w0 wy (.cell b6 (quC av fv tv (.slice At tl.length ct) bk 0 (-1) cnt) 46 :: .cell bR (rdC (.slice Aw wo.length cw) (st6 wo)) 103 :: .cell b5 [.pointer (some ⟨bR, 0, none⟩)] 99 :: .row eBs 9 (.slice Aw wo.length cw) wo :: .cell b2 (quC 0 [] [] (.slice none 0 0) false 0 0 false) 46 :: .row eTs 120 (.slice At tl.length ct) tl :: []) := hM.sub (by (repeat (first | exact Go.Proofs.E.Sub.refl _ | exact Go.Proofs.E.Sub.nil | (apply Go.Proofs.E.Sub.cons; (repeat (first | exact Go.Proofs.E.Pick.here | apply Go.Proofs.E.Pick.there))) | apply Go.Proofs.E.Sub.tail)))
  clear hc hB1 hB2 hB6 hwz
  repeat (first | refine gs ?_ | (refine ks ?_; intro w hM))
  (try ((with_reducible apply is_gd); first | refine gt ?_ | refine gf ?_ | refine gu ?_)); refine wl_val (r_makeFunc (cs := [.tmp 5, .tmp 6])) ?_
  refine kcd (f := 63) (vs := [.string (bst wSkip), .func (.func 73) #[] #[.pointer (some ⟨b5, 0, none⟩), .pointer (some ⟨b6, 0, none⟩)]]) (lb := #[.pointer (some ⟨b5, 0, none⟩)]) (clSk_any b5 bR b6 av fv tv At tl.length ct bk 0 (-1) cnt (.slice Aw wo.length cw) wo (st6 wo) _ 99 (hM.blk (b := b5) (by (repeat constructor))) (hM.blk (b := bR) (by (repeat constructor))) (hM.blk (b := b6) (by (repeat constructor))) hne hn5 (hM.rowRd1 (en := eBs) (v := .slice Aw wo.length cw) (xs := wo) (b := bR) (by omega)) (by omega) (by omega) hwx) ?_
  rintro _ wx ⟨hc, hB1, kv, hkv, hB2⟩
  have hM := hM.cellSet2 hB1 hB2 hc
  have hM : Mem [] w0 wx (.cell b6 (quC av fv tv (.slice At tl.length ct) bk kv (-1) cnt) 46 :: .cell bR (rdC (.slice Aw wo.length cw) (st7 wo)) 103 :: .cell b5 [.pointer (some ⟨bR, 0, none⟩)] 99 :: .row eBs 9 (.slice Aw wo.length cw) wo :: .cell b2 (quC 0 [] [] (.slice none 0 0) false 0 0 false) 46 :: .row eTs 120 (.slice At tl.length ct) tl :: []) := hM.sub (by (repeat (first | exact Go.Proofs.E.Sub.refl _ | exact Go.Proofs.E.Sub.nil | (apply Go.Proofs.E.Sub.cons; (repeat (first | exact Go.Proofs.E.Pick.here | apply Go.Proofs.E.Pick.there))) | apply Go.Proofs.E.Sub.tail)))
  clear hc hB1 hB2
  repeat (first | refine gs ?_ | (refine ks ?_; intro w hM))
  (try ((with_reducible apply is_gd); first | refine gt ?_ | refine gf ?_ | refine gu ?_)); refine wl_val (r_makeFunc (cs := [.tmp 5, .tmp 6])) ?_
  refine kcd (f := 63) (vs := [.string (bst wLimit), .func (.func 74) #[] #[.pointer (some ⟨b5, 0, none⟩), .pointer (some ⟨b6, 0, none⟩)]]) (lb := #[.pointer (some ⟨b5, 0, none⟩)]) (clLm_any b5 bR b6 av fv tv At tl.length ct bk kv (-1) cnt (.slice Aw wo.length cw) wo (st7 wo) _ 99 (hM.blk (b := b5) (by (repeat constructor))) (hM.blk (b := bR) (by (repeat constructor))) (hM.blk (b := b6) (by (repeat constructor))) hne hn5 (hM.rowRd1 (en := eBs) (v := .slice Aw wo.length cw) (xs := wo) (b := bR) (by omega)) (by omega) (by omega) hwx) ?_
  rintro _ wx ⟨hc, hB1, lv, hlv, hB2⟩
  have hM := hM.cellSet2 hB1 hB2 hc
  have hM : Mem [] w0 wx (.cell b6 (quC av fv tv (.slice At tl.length ct) bk kv lv cnt) 46 :: .cell bR (rdC (.slice Aw wo.length cw) (st8 wo)) 103 :: .cell b5 [.pointer (some ⟨bR, 0, none⟩)] 99 :: .row eBs 9 (.slice Aw wo.length cw) wo :: .cell b2 (quC 0 [] [] (.slice none 0 0) false 0 0 false) 46 :: .row eTs 120 (.slice At tl.length ct) tl :: []) := hM.sub (by (repeat (first | exact Go.Proofs.E.Sub.refl _ | exact Go.Proofs.E.Sub.nil | (apply Go.Proofs.E.Sub.cons; (repeat (first | exact Go.Proofs.E.Pick.here | apply Go.Proofs.E.Pick.there))) | apply Go.Proofs.E.Sub.tail)))
  clear hc hB1 hB2
  repeat (first | refine gs ?_ | (refine ks ?_; intro w hM))
  refine kdr hM (by kernel_rfl) (by kernel_rfl) (fun w hM => ?_)
  repeat (first | ((with_reducible apply is_ldg); first | refine kldg hM ?_ | refine kldwg hM ?_) | ((with_reducible apply is_sg); (first | refine ssg ?_ | refine sgu ?_)) | ((with_reducible apply is_gg); first | refine gtg ?_ | refine gfg ?_ | refine gug ?_) | ((with_reducible apply is_eg); refine eg ?_))
  cases hb8 : (st8 wo).2 with
  | true =>
    repeat (first | ((with_reducible apply is_ldg); first | refine kldg hM ?_ | refine kldwg hM ?_) | ((with_reducible apply is_sg); (first | refine ssg ?_ | refine sgu ?_)) | ((with_reducible apply is_gg); first | refine gtg ?_ | refine gfg ?_ | refine gug ?_) | ((with_reducible apply is_eg); refine eg ?_))
    (intro w hc; have hM := hM.call hc)
    repeat (first | refine gs ?_ | (refine ks ?_; intro w hM))
    refine c_condb rfl (fun _ => ?_) (fun h => by cases h)
    repeat (first | refine gs ?_ | (refine ks ?_; intro w hM))
    refine c_ordY ([], []) [b2] (by kernel_rfl) (by kernel_rfl) (by kernel_rfl) (fun w hc hs => ?_)
    have hM := hM.call hc
    have hl5 := Blk.lt (hM.blk (b := b5) (by (repeat constructor)))
    have hlR := Blk.lt (hM.blk (b := bR) (by (repeat constructor)))
    have hn5 := hM.nin (b := b2) (c := b5) (by (repeat constructor)) (by (repeat constructor))
    have hnR := hM.nin (b := b2) (c := bR) (by (repeat constructor)) (by (repeat constructor))
    refine ynp 0 rfl (by kernel_rfl) (by kernel_rfl) (fun _ => r_bldS (vs := []) (quC 0 [] [] (.slice none 0 0) false 0 0 false) (z := quC 0 [] [] (.slice none 0 0) false 0 0 false) (place := (#[(0, 1), (1, 1), (2, 1), (3, 1), (4, 1), (5, 1), (6, 1), (7, 1)][·]?)) (by intro ps; kernel_rfl) rfl (.nil rfl)) rfl ?_
    refine ynl 1 rfl (hM.blk (b := b5) (by (repeat constructor))) (by omega) hn5 rfl rfl ?_
    (first | refine yn 2 rfl ?_ | refine ynt 2 rfl ?_ | refine ynff 2 rfl ?_); (first | refine yn 3 rfl ?_ | refine ynt 3 rfl ?_ | refine ynff 3 rfl ?_)
    refine ynl 4 rfl (hM.blk (b := bR) (by (repeat constructor))) (by omega) hnR rfl rfl ?_
    (first | refine yn 5 rfl ?_ | refine ynt 5 rfl ?_ | refine ynff 5 rfl ?_)
    refine yk1 6 hM (by kernel_rfl) rfl (fun w h0 hM => ?_)
    refine kstH (b := b2) (vs := quC 0 [] [] (.slice none 0 0) false 0 0 false) hM (fun w hc hM => ?_) rfl rfl (h1 := by simp [Value.oneCell'])
    refine x_wy (.inl (hc.bwn h0 (.inr (by simp)))) rfl ?_
    (first | refine yn 7 rfl ?_ | refine ynt 7 rfl ?_ | refine ynff 7 rfl ?_); (first | refine yn 8 rfl ?_ | refine ynt 8 rfl ?_ | refine ynff 8 rfl ?_)
    refine wy_done (by kernel_rfl) (fun w hc => ?_)
    have hM := hM.call hc
    repeat (first | refine gs ?_ | (refine ks ?_; intro w hM))
    rw [if_pos (by first | exact .inl hb8 | exact .inr hlt)] at hpq
    refine koc12 hM rfl ⟨.slice none 0 0, ?_, ?_⟩
    · rw [hpq]; rfl
    · rw [hpq]
      exact hM.nil.nilRow _ _
  | false =>
  repeat (first | ((with_reducible apply is_ldg); first | refine kldg hM ?_ | refine kldwg hM ?_) | ((with_reducible apply is_sg); (first | refine ssg ?_ | refine sgu ?_)) | ((with_reducible apply is_gg); first | refine gtg ?_ | refine gfg ?_ | refine gug ?_) | ((with_reducible apply is_eg); refine eg ?_))
  by_cases hlt : (st8 wo).1 < wo.length
  · rw [decide_eq_true (by omega : ((st8 wo).1 : Int) < (wo.length : Int))]
    repeat (first | ((with_reducible apply is_ldg); first | refine kldg hM ?_ | refine kldwg hM ?_) | ((with_reducible apply is_sg); (first | refine ssg ?_ | refine sgu ?_)) | ((with_reducible apply is_gg); first | refine gtg ?_ | refine gfg ?_ | refine gug ?_) | ((with_reducible apply is_eg); refine eg ?_))
    (intro w hc; have hM := hM.call hc)
    repeat (first | refine gs ?_ | (refine ks ?_; intro w hM))
    refine c_condb rfl (fun _ => ?_) (fun h => by cases h)
    repeat (first | refine gs ?_ | (refine ks ?_; intro w hM))
    refine c_ordY ([], []) [b2] (by kernel_rfl) (by kernel_rfl) (by kernel_rfl) (fun w hc hs => ?_)
    have hM := hM.call hc
    have hl5 := Blk.lt (hM.blk (b := b5) (by (repeat constructor)))
    have hlR := Blk.lt (hM.blk (b := bR) (by (repeat constructor)))
    have hn5 := hM.nin (b := b2) (c := b5) (by (repeat constructor)) (by (repeat constructor))
    have hnR := hM.nin (b := b2) (c := bR) (by (repeat constructor)) (by (repeat constructor))
    refine ynp 0 rfl (by kernel_rfl) (by kernel_rfl) (fun _ => r_bldS (vs := []) (quC 0 [] [] (.slice none 0 0) false 0 0 false) (z := quC 0 [] [] (.slice none 0 0) false 0 0 false) (place := (#[(0, 1), (1, 1), (2, 1), (3, 1), (4, 1), (5, 1), (6, 1), (7, 1)][·]?)) (by intro ps; kernel_rfl) rfl (.nil rfl)) rfl ?_
    refine ynl 1 rfl (hM.blk (b := b5) (by (repeat constructor))) (by omega) hn5 rfl rfl ?_
    (first | refine yn 2 rfl ?_ | refine ynt 2 rfl ?_ | refine ynff 2 rfl ?_); (first | refine yn 3 rfl ?_ | refine ynt 3 rfl ?_ | refine ynff 3 rfl ?_)
    refine ynl 4 rfl (hM.blk (b := bR) (by (repeat constructor))) (by omega) hnR rfl rfl ?_
    (first | refine yn 5 rfl ?_ | refine ynt 5 rfl ?_ | refine ynff 5 rfl ?_)
    refine yk1 6 hM (by kernel_rfl) rfl (fun w h0 hM => ?_)
    refine kstH (b := b2) (vs := quC 0 [] [] (.slice none 0 0) false 0 0 false) hM (fun w hc hM => ?_) rfl rfl (h1 := by simp [Value.oneCell'])
    refine x_wy (.inl (hc.bwn h0 (.inr (by simp)))) rfl ?_
    (first | refine yn 7 rfl ?_ | refine ynt 7 rfl ?_ | refine ynff 7 rfl ?_); (first | refine yn 8 rfl ?_ | refine ynt 8 rfl ?_ | refine ynff 8 rfl ?_)
    refine wy_done (by kernel_rfl) (fun w hc => ?_)
    have hM := hM.call hc
    repeat (first | refine gs ?_ | (refine ks ?_; intro w hM))
    rw [if_pos (by first | exact .inl hb8 | exact .inr hlt)] at hpq
    refine koc12 hM rfl ⟨.slice none 0 0, ?_, ?_⟩
    · rw [hpq]; rfl
    · rw [hpq]
      exact hM.nil.nilRow _ _
  rw [decide_eq_false (by omega : ¬ ((st8 wo).1 : Int) < (wo.length : Int))]
  repeat (first | ((with_reducible apply is_ldg); first | refine kldg hM ?_ | refine kldwg hM ?_) | ((with_reducible apply is_sg); (first | refine ssg ?_ | refine sgu ?_)) | ((with_reducible apply is_gg); first | refine gtg ?_ | refine gfg ?_ | refine gug ?_) | ((with_reducible apply is_eg); refine eg ?_))
  (intro w hc; have hM := hM.call hc)
  repeat (first | refine gs ?_ | (refine ks ?_; intro w hM))
  refine c_condb rfl (fun h => by cases h) (fun _ => ?_)
  repeat (first | refine gs ?_ | (refine ks ?_; intro w hM))
  rw [if_neg (by rw [hb8]; simp; omega)] at hpq
  obtain ⟨⟨x1, y1⟩, ⟨x2, y2⟩, ⟨x3, y3⟩, y4, ⟨x5, y5⟩, ⟨x6, y6⟩⟩ := all_vals hb8
  have hq : qAll wo = ⟨av, fv, tv, tl, bk, kv, lv, cnt⟩ := by
    unfold qAll
    rw [h5e] at y4
    rw [y1, y2, y3, y5, y6, hTS, h5e, hbk, hcnt, hav x1 y1, hfv x2 y2, htv x3 y3, hkv x5 y5, hlv x6 y6, htl2 y4]
    rfl
  refine koc12 hM rfl ⟨.slice At tl.length ct, ?_, ?_⟩
  · rw [hpq, hq]; rfl
  · rw [hpq, hq]
    exact hM.sub (by (repeat (first | exact Go.Proofs.E.Sub.refl _ | exact Go.Proofs.E.Sub.nil | (apply Go.Proofs.E.Sub.cons; (repeat (first | exact Go.Proofs.E.Pick.here | apply Go.Proofs.E.Pick.there))) | apply Go.Proofs.E.Sub.tail)))
end Go.Proofs.YtoimhmphhffelaaGreatDoor
set_option linter.unusedVariables false
set_option linter.unusedSimpArgs false
namespace Go.Proofs.YtoimhmphhffelaaGreatDoor
open Go Go.RowKit Go.Proofs.E
attribute [local irreducible] Go.wpList Go.Code.wp Go.Proofs.E.exec Go.Proofs.E.wpLexG
theorem hexs_at {n : Nat} (h : n < 16) : hexsB[n]? = some (hexd n) := by
  have : ∀ n : Fin 16, hexsB[n.1]? = some (hexd n.1) := by decide
  exact this ⟨n, h⟩
theorem hexs_sub {n : Nat} (h : n < 16) : (hexsB.take (n + 1)).drop n = [hexd n] := by
  have : ∀ n : Fin 16, (hexsB.take (n.1 + 1)).drop n.1 = [hexd n.1] := by decide
  exact this ⟨n, h⟩
theorem r_shr4 {P : Program} {l : List Value} {w : World} {T : TypeId} {x y : Operand} {t u : TypeId} {q : IntKind} {c : UInt8} (hx : ev l x = u8v c) (hy : ev l y = .int q 4) :
    (exec (ev l) (.binOp .shr t x y u) T).run P w = .ok (.value (.int .u8 ((c.toNat / 16 : Nat) : Int))) w := by
  refine (r_shr (k := .u8) (a := (c.toNat : Int)) hx hy (by omega)).trans ?_
  have : ((c.toNat : Int)).fdiv (2 ^ min (4 : Int).toNat IntKind.u8.bits) = ((c.toNat / 16 : Nat) : Int) := by
    show ((c.toNat : Int)).fdiv 16 = _
    rw [Int.fdiv_eq_ediv_of_nonneg _ (by omega)]
    omega
  rw [this]
theorem r_and15 {P : Program} {l : List Value} {w : World} {T : TypeId} {x y : Operand} {t u : TypeId} {c : UInt8} (hx : ev l x = u8v c) (hy : ev l y = .int .u8 15) :
    (exec (ev l) (.binOp .and t x y u) T).run P w = .ok (.value (.int .u8 ((c.toNat % 16 : Nat) : Int))) w := by
  refine (r_and (k := .u8) (a := (c.toNat : Int)) hx hy).trans ?_
  have : ∀ n : Fin 256, IntKind.u8.wrap (BitVec.ofInt IntKind.u8.bits (n.1 : Int) &&& BitVec.ofInt IntKind.u8.bits 15).toNat = ((n.1 % 16 : Nat) : Int) := by decide +kernel
  have h := this ⟨c.toNat, UInt8.toNat_lt c⟩
  rw [h]
theorem quo16 {c : UInt8} : IntKind.u8.wrap ((c.toNat : Int).tdiv 16) = ((c.toNat / 16 : Nat) : Int) := by
  have : ∀ n : Fin 256, IntKind.u8.wrap ((n.1 : Int).tdiv 16) = ((n.1 / 16 : Nat) : Int) := by decide +kernel
  exact this ⟨c.toNat, UInt8.toNat_lt c⟩
theorem rem16 {c : UInt8} : (c.toNat : Int).tmod 16 = ((c.toNat % 16 : Nat) : Int) := by
  have : ∀ n : Fin 256, (n.1 : Int).tmod 16 = ((n.1 % 16 : Nat) : Int) := by decide +kernel
  exact this ⟨c.toNat, UInt8.toNat_lt c⟩
theorem flat_next {s : List UInt8} {i : Nat} {c : UInt8} (h : s[i]? = some c) : (s.take (i + 1)).flatMap quoC = (s.take i).flatMap quoC ++ quoC c := by
  rw [List.take_add_one, h]
  simp
theorem quoC_le (c : UInt8) : (quoC c).length ≤ 3 := by
  unfold quoC
  split <;> simp
theorem quoF_le : ∀ s : List UInt8, (s.flatMap quoC).length ≤ 3 * s.length
  | [] => by simp
  | c :: s => by
    rw [List.flatMap_cons, List.length_append, List.length_cons]
    have := quoC_le c
    have := quoF_le s
    omega
set_option maxHeartbeats 16000000 in
theorem quote_any (s : List UInt8) (w0 : World) (hs : s.length ≤ 100000) :
    Calls Tryz.prog 92 #[.string (bst s)] w0 (Ret fun u w' => u = .string (bst (quoB s)) ∧ Ch [] w0 w') := by
  have hM := Mem.start w0
  refine enter [.string (bst s), undef, undef, undef, undef, undef, undef, undef, undef, undef, undef, undef, undef, undef, undef, undef, undef, undef, undef, undef, undef, undef, undef, undef, undef, undef, undef, undef, undef, undef, undef, undef, undef, undef, undef] Tryz.func92 rfl rfl ?_
  repeat (first | refine gs ?_ | (refine ks ?_; intro w hM))
  refine kbs (en := eU8) (vs := [u8v 39]) [39] hM (fun w b1 hM => ?_) (hm := by intro v q; simp only [List.mem_singleton] at q; subst q; rfl)
  repeat (first | refine gs ?_ | (refine ks ?_; intro w hM))
  
  refine c_loop (fun n l w => ∃ (i : Nat) (v3 : Value), (∃ jj : Nat → Value, l = [.string (bst s), jj 1, jj 2, v3, jj 4, jj 5, jj 6, .string (bst s), .int .i64 (s.length : Int), .int .i64 (i : Int), jj 10, jj 11, jj 12, jj 13, jj 14, jj 15, jj 16, jj 17, jj 18, jj 19, jj 20, jj 21, jj 22, jj 23, jj 24, jj 25, jj 26, jj 27, jj 28, jj 29, jj 30, jj 31, jj 32, jj 33, jj 34]) ∧ n + i = s.length ∧ Mem [] w0 w [.row eU8 5 v3 (39 :: (s.take i).flatMap quoC)]) s.length
    ⟨0, _, exj rfl, rfl, hM⟩ ?_
  clear hM
  rintro n l w ⟨i, v3, ⟨jj, rfl⟩, hn, hM⟩
  have hle := quoF_le (s.take i)
  have hle2 : (s.take i).length ≤ s.length := by simp; omega
  repeat (first | refine gs ?_ | (refine ks ?_; intro w hM))
  refine c_cond rfl (fun hi => ?_) (fun hi => ?_)
  rotate_left
  · rw [List.take_of_length_le (by omega)] at hM hle
    repeat (first | refine gs ?_ | (refine ks ?_; intro w hM))
    refine kbs (en := eU8) (vs := [u8v 39]) [39] hM (fun w b1 hM => ?_) (hm := by intro v q; simp only [List.mem_singleton] at q; subst q; rfl)
    repeat (first | refine gs ?_ | (refine ks ?_; intro w hM))
    have hR1 := hM.rowRdO (en := eU8) (v := .slice (some ⟨b1, 0, none⟩) 1 1) (xs := [39]) (by (repeat constructor))
    refine kap (en := eU8) (v := v3) (xs := 39 :: s.flatMap quoC) (ys := [39]) hM hR1 (fun v7 w hM => ?_) (hb := by simp only [List.length_cons, List.length_nil]; omega) (h63 := by simp only [List.length_cons, List.length_nil]; omega)
    have hR := hM.rowRdO (en := eU8) (xs := 39 :: s.flatMap quoC ++ [39]) (v := v7) (by (repeat constructor))
    obtain ⟨A4, c4, rfl⟩ := hR.form
    repeat (first | refine gs ?_ | (refine ks ?_; intro w hM))
    (try ((with_reducible apply is_gd); first | refine gt ?_ | refine gf ?_ | refine gu ?_)); refine wl_val (r_b2s hR) ?_
    repeat (first | refine gs ?_ | (refine ks ?_; intro w hM))
    exact out1 rfl ⟨rfl, hM.ch⟩
  obtain ⟨c, hc⟩ : ∃ c, s[i]? = some c := ⟨_, List.getElem?_eq_getElem (by omega)⟩
  have hnx := flat_next hc
  repeat (first | refine gs ?_ | (refine ks ?_; intro w hM))
  refine kcs (itself_any c w) ?_
  cases ha : selfB c with
  | true =>
    have hq : quoC c = [c] := by unfold quoC; rw [if_pos ha]
    rw [hq] at hnx
    repeat (first | refine gs ?_ | (refine ks ?_; intro w hM))
    refine c_condb rfl (fun _ => ?_) (fun h => by cases h)
    repeat (first | refine gs ?_ | (refine ks ?_; intro w hM))
    refine kpu c hM (fun u v' w hM => ?_) (hb := by simp only [List.length_cons]; omega) (h63 := by simp only [List.length_cons]; omega)
    repeat (first | refine gs ?_ | (refine ks ?_; intro w hM))
    exact x_goes (n - 1) rfl (by omega) ⟨i + 1, v', exj rfl, by omega, by rw [hnx]; exact hM.sub (by (repeat (first | exact Go.Proofs.E.Sub.refl _ | exact Go.Proofs.E.Sub.nil | (apply Go.Proofs.E.Sub.cons; (repeat (first | exact Go.Proofs.E.Pick.here | apply Go.Proofs.E.Pick.there))) | apply Go.Proofs.E.Sub.tail)))⟩
  | false =>
    have hq : quoC c = [37, hexd (c.toNat / 16), hexd (c.toNat % 16)] := by unfold quoC; rw [if_neg (by rw [ha]; simp)]
    rw [hq] at hnx
    have hcl := UInt8.toNat_lt c
    have hx1 := hexs_at (n := c.toNat / 16) (by omega)
    have hx2 := hexs_at (n := c.toNat % 16) (by omega)
    repeat (first | refine gs ?_ | (refine ks ?_; intro w hM))
    refine c_condb rfl (fun h => by cases h) (fun _ => ?_)
    repeat (first | refine gsb ?_ | (refine ks ?_; intro w hM))
    refine c_ordY ([8], []) [] (by kernel_rfl) (by kernel_rfl) (by kernel_rfl) (fun w hc hs => ?_)
    have hM := hM.call hc
    (first | refine yn 0 rfl ?_ | refine ynt 0 rfl ?_ | refine ynff 0 rfl ?_); (first | refine yn 1 rfl ?_ | refine ynt 1 rfl ?_ | refine ynff 1 rfl ?_)
    refine ynp 2 rfl (by kernel_rfl) (by kernel_rfl) (fun _ => r_shr4 (c := c) rfl rfl) rfl ?_
    refine ynp 3 rfl (by kernel_rfl) (by kernel_rfl) (fun _ => r_idxS (s := hexsB) rfl rfl (by omega) (by rw [Int.toNat_natCast]; exact hx1)) rfl ?_
    (first | refine yn 4 rfl ?_ | refine ynt 4 rfl ?_ | refine ynff 4 rfl ?_)
    refine ynp 5 rfl (by kernel_rfl) (by kernel_rfl) (fun _ => r_and15 (c := c) rfl rfl) rfl ?_
    refine ynp 6 rfl (by kernel_rfl) (by kernel_rfl) (fun _ => r_idxS (s := hexsB) rfl rfl (by omega) (by rw [Int.toNat_natCast]; exact hx2)) rfl ?_
    refine yk1 7 hM (by kernel_rfl) rfl (fun w h0 hM => ?_)
    refine kbsC (en := eU8) (vs := [u8v 37, u8v (hexd (c.toNat / 16)), u8v (hexd (c.toNat % 16))]) [37, hexd (c.toNat / 16), hexd (c.toNat % 16)] hM (fun w b hc hM => ?_) (hm := by intro v q; simp only [List.mem_cons, List.not_mem_nil, or_false] at q; rcases q with rfl | rfl | rfl <;> rfl)
    refine x_wy (.inl (hc.gy h0)) rfl ?_
    refine yk1 8 hM (by kernel_rfl) rfl (fun w h0 hM => ?_)
    have hR1 := hM.rowRdO (en := eU8) (v := .slice (some ⟨b, 0, none⟩) 3 3) (xs := [37, hexd (c.toNat / 16), hexd (c.toNat % 16)]) (by (repeat constructor))
    refine kapC (en := eU8) (v := v3) (xs := 39 :: (s.take i).flatMap quoC) (ys := [37, hexd (c.toNat / 16), hexd (c.toNat % 16)]) hM hR1 (fun v7 w hs hM => ?_) (hb := by simp only [List.length_cons, List.length_nil]; omega) (h63 := by simp only [List.length_cons, List.length_nil]; omega)
    refine x_wy (.inr ⟨by decide, Nat.le_trans h0 hs⟩) rfl ?_
    (first | refine yn 9 rfl ?_ | refine ynt 9 rfl ?_ | refine ynff 9 rfl ?_)
    refine wy_done (by kernel_rfl) (fun w hc => ?_)
    have hM := hM.call hc
    repeat (first | refine gs ?_ | (refine ks ?_; intro w hM))
    exact x_goes (n - 1) rfl (by omega) ⟨i + 1, v7, exj rfl, by omega, by rw [hnx]; exact hM.sub (by (repeat (first | exact Go.Proofs.E.Sub.refl _ | exact Go.Proofs.E.Sub.nil | (apply Go.Proofs.E.Sub.cons; (repeat (first | exact Go.Proofs.E.Pick.here | apply Go.Proofs.E.Pick.there))) | apply Go.Proofs.E.Sub.tail)))⟩
set_option maxHeartbeats 16000000 in
theorem rquote_any (s : List UInt8) (w0 : World) (hs : s.length ≤ 100000) :
    Calls Tryz.prog 95 #[.string (bst s)] w0 (Ret fun u w' => u = .string (bst (quoB s)) ∧ Ch [] w0 w') := by
  have hM := Mem.start w0
  refine enter [.string (bst s), undef, undef, undef, undef, undef, undef, undef, undef, undef, undef, undef, undef, undef, undef, undef, undef, undef, undef, undef, undef, undef, undef, undef, undef, undef, undef, undef, undef, undef, undef, undef, undef, undef, undef, undef, undef, undef, undef, undef, undef, undef, undef, undef, undef, undef, undef, undef, undef, undef, undef, undef, undef, undef, undef, undef] Tryz.func95 rfl rfl ?_
  repeat (first | refine gs ?_ | (refine ks ?_; intro w hM))
  
  refine c_loop (fun n l w => ∃ (i : Nat), (∃ jj : Nat → Value, l = [.string (bst s), jj 1, jj 2, .string (bst (39 :: (s.take i).flatMap quoC)), .int .i64 (i : Int), jj 5, jj 6, jj 7, jj 8, jj 9, jj 10, jj 11, jj 12, jj 13, jj 14, jj 15, jj 16, jj 17, jj 18, jj 19, jj 20, jj 21, jj 22, jj 23, jj 24, jj 25, jj 26, jj 27, jj 28, jj 29, jj 30, jj 31, jj 32, jj 33, jj 34, jj 35, jj 36, jj 37, jj 38, jj 39, jj 40, jj 41, jj 42, jj 43, jj 44, jj 45, jj 46, jj 47, jj 48, jj 49, jj 50, jj 51, jj 52, jj 53, jj 54, jj 55]) ∧ n + i = s.length ∧ Mem [] w0 w []) s.length
    ⟨0, exj rfl, rfl, hM⟩ ?_
  clear hM
  rintro n l w ⟨i, ⟨jj, rfl⟩, hn, hM⟩
  have hle := quoF_le (s.take i)
  have hle2 : (s.take i).length ≤ s.length := by simp; omega
  repeat (first | refine gs ?_ | (refine ks ?_; intro w hM))
  refine c_cond rfl (fun hi => ?_) (fun hi => ?_)
  rotate_left
  · rw [List.take_of_length_le (by omega)] at hle
    rw [List.take_of_length_le (l := s) (i := i) (by omega)]
    repeat (first | refine gs ?_ | (refine ks ?_; intro w hM))
    (try ((with_reducible apply is_gd); first | refine gt ?_ | refine gf ?_ | refine gu ?_)); refine wl_val (r_addS (a := 39 :: s.flatMap quoC) (b := [39]) rfl rfl (by simp only [List.length_cons, List.length_nil]; omega)) ?_
    repeat (first | refine gs ?_ | (refine ks ?_; intro w hM))
    exact out1 rfl ⟨rfl, hM.ch⟩
  obtain ⟨c, hc⟩ : ∃ c, s[i]? = some c := ⟨_, List.getElem?_eq_getElem (by omega)⟩
  have hnx := flat_next hc
  have hsub : (s.take (i + 1)).drop i = [c] := by
    rw [List.take_add_one, hc, List.drop_append_of_le_length (by rw [List.length_take]; omega), List.drop_of_length_le (by rw [List.length_take]; omega)]
    rfl
  have hcl := UInt8.toNat_lt c
  have hx1 := hexs_sub (n := c.toNat / 16) (by omega)
  have hx2 := hexs_sub (n := c.toNat % 16) (by omega)
  have hqf : selfB c = false → quoC c = [37, hexd (c.toNat / 16), hexd (c.toNat % 16)] := fun ha => by unfold quoC; rw [if_neg (by rw [ha]; simp)]
  have hqt : selfB c = true → quoC c = [c] := fun ha => by unfold quoC; rw [if_pos ha]
  repeat (first | refine gs ?_ | (refine ks ?_; intro w hM))
  unfold u8v
  repeat (first | refine gs ?_ | (refine ks ?_; intro w hM))
  by_cases h1 : 32 ≤ c.toNat
  rotate_left
  · have hq := hqf (by unfold selfB; rw [decide_eq_false h1]; rfl)
    rw [decide_eq_false (by omega : ¬ (32 : Int) ≤ (c.toNat : Int))]
    repeat (first | refine gs ?_ | (refine ks ?_; intro w hM))
    refine c_condb rfl (fun h => by cases h) (fun _ => ?_)
    repeat (first | refine gs ?_ | (refine ks ?_; intro w hM))
    simp only [quo16, rem16]
    refine c_ordY ([], []) [] (by kernel_rfl) (by kernel_rfl) (by kernel_rfl) (fun w hc hs => ?_)
    have hM := hM.call hc
    (first | refine yn 0 rfl ?_ | refine ynt 0 rfl ?_ | refine ynff 0 rfl ?_); (first | refine yn 1 rfl ?_ | refine ynt 1 rfl ?_ | refine ynff 1 rfl ?_); (first | refine yn 2 rfl ?_ | refine ynt 2 rfl ?_ | refine ynff 2 rfl ?_); (first | refine yn 3 rfl ?_ | refine ynt 3 rfl ?_ | refine ynff 3 rfl ?_)
    refine ynp 4 rfl (by kernel_rfl) (by kernel_rfl) (fun _ => (r_subLH (s := hexsB) (i := ((c.toNat / 16 : Nat) : Int)) (j := ((c.toNat / 16 : Nat) : Int) + 1) rfl rfl rfl (by omega) (by omega) (by simp only [List.length_cons, List.length_nil]; omega)).trans (by rw [show (((c.toNat / 16 : Nat) : Int) + 1).toNat = c.toNat / 16 + 1 by omega, Int.toNat_natCast, hx1])) rfl ?_
    refine ynp 5 rfl (by kernel_rfl) (by kernel_rfl) (fun _ => r_addS (a := [37]) (b := [hexd (c.toNat / 16)]) rfl rfl (by simp)) rfl ?_
    (first | refine yn 6 rfl ?_ | refine ynt 6 rfl ?_ | refine ynff 6 rfl ?_); (first | refine yn 7 rfl ?_ | refine ynt 7 rfl ?_ | refine ynff 7 rfl ?_); (first | refine yn 8 rfl ?_ | refine ynt 8 rfl ?_ | refine ynff 8 rfl ?_)
    refine ynp 9 rfl (by kernel_rfl) (by kernel_rfl) (fun _ => (r_subLH (s := hexsB) (i := ((c.toNat % 16 : Nat) : Int)) (j := ((c.toNat % 16 : Nat) : Int) + 1) rfl rfl rfl (by omega) (by omega) (by simp only [List.length_cons, List.length_nil]; omega)).trans (by rw [show (((c.toNat % 16 : Nat) : Int) + 1).toNat = c.toNat % 16 + 1 by omega, Int.toNat_natCast, hx2])) rfl ?_
    refine ynp 10 rfl (by kernel_rfl) (by kernel_rfl) (fun _ => r_addS (a := [37] ++ [hexd (c.toNat / 16)]) (b := [hexd (c.toNat % 16)]) rfl rfl (by simp)) rfl ?_
    refine ynp 11 rfl (by kernel_rfl) (by kernel_rfl) (fun _ => r_addS (a := 39 :: (s.take i).flatMap quoC) (b := [37] ++ [hexd (c.toNat / 16)] ++ [hexd (c.toNat % 16)]) rfl rfl (by simp only [List.length_cons, List.length_nil, List.length_append]; omega)) rfl ?_
    (first | refine yn 12 rfl ?_ | refine ynt 12 rfl ?_ | refine ynff 12 rfl ?_)
    refine wy_done (by kernel_rfl) (fun w hc => ?_)
    have hM := hM.call hc
    repeat (first | refine gs ?_ | (refine ks ?_; intro w hM))
    exact x_goes (n - 1) rfl (by omega) ⟨i + 1, exj (by rw [hnx, hq]; rfl), by omega, hM⟩
  rw [decide_eq_true (by omega : (32 : Int) ≤ (c.toNat : Int))]
  repeat (first | refine gs ?_ | (refine ks ?_; intro w hM))
  by_cases h2 : c.toNat ≤ 126
  rotate_left
  · have hq := hqf (by unfold selfB; rw [decide_eq_false h2]; simp)
    rw [decide_eq_false (by omega : ¬ (c.toNat : Int) ≤ 126)]
    repeat (first | refine gs ?_ | (refine ks ?_; intro w hM))
    refine c_condb rfl (fun h => by cases h) (fun _ => ?_)
    repeat (first | refine gs ?_ | (refine ks ?_; intro w hM))
    simp only [quo16, rem16]
    refine c_ordY ([], []) [] (by kernel_rfl) (by kernel_rfl) (by kernel_rfl) (fun w hc hs => ?_)
    have hM := hM.call hc
    (first | refine yn 0 rfl ?_ | refine ynt 0 rfl ?_ | refine ynff 0 rfl ?_); (first | refine yn 1 rfl ?_ | refine ynt 1 rfl ?_ | refine ynff 1 rfl ?_); (first | refine yn 2 rfl ?_ | refine ynt 2 rfl ?_ | refine ynff 2 rfl ?_); (first | refine yn 3 rfl ?_ | refine ynt 3 rfl ?_ | refine ynff 3 rfl ?_)
    refine ynp 4 rfl (by kernel_rfl) (by kernel_rfl) (fun _ => (r_subLH (s := hexsB) (i := ((c.toNat / 16 : Nat) : Int)) (j := ((c.toNat / 16 : Nat) : Int) + 1) rfl rfl rfl (by omega) (by omega) (by simp only [List.length_cons, List.length_nil]; omega)).trans (by rw [show (((c.toNat / 16 : Nat) : Int) + 1).toNat = c.toNat / 16 + 1 by omega, Int.toNat_natCast, hx1])) rfl ?_
    refine ynp 5 rfl (by kernel_rfl) (by kernel_rfl) (fun _ => r_addS (a := [37]) (b := [hexd (c.toNat / 16)]) rfl rfl (by simp)) rfl ?_
    (first | refine yn 6 rfl ?_ | refine ynt 6 rfl ?_ | refine ynff 6 rfl ?_); (first | refine yn 7 rfl ?_ | refine ynt 7 rfl ?_ | refine ynff 7 rfl ?_); (first | refine yn 8 rfl ?_ | refine ynt 8 rfl ?_ | refine ynff 8 rfl ?_)
    refine ynp 9 rfl (by kernel_rfl) (by kernel_rfl) (fun _ => (r_subLH (s := hexsB) (i := ((c.toNat % 16 : Nat) : Int)) (j := ((c.toNat % 16 : Nat) : Int) + 1) rfl rfl rfl (by omega) (by omega) (by simp only [List.length_cons, List.length_nil]; omega)).trans (by rw [show (((c.toNat % 16 : Nat) : Int) + 1).toNat = c.toNat % 16 + 1 by omega, Int.toNat_natCast, hx2])) rfl ?_
    refine ynp 10 rfl (by kernel_rfl) (by kernel_rfl) (fun _ => r_addS (a := [37] ++ [hexd (c.toNat / 16)]) (b := [hexd (c.toNat % 16)]) rfl rfl (by simp)) rfl ?_
    refine ynp 11 rfl (by kernel_rfl) (by kernel_rfl) (fun _ => r_addS (a := 39 :: (s.take i).flatMap quoC) (b := [37] ++ [hexd (c.toNat / 16)] ++ [hexd (c.toNat % 16)]) rfl rfl (by simp only [List.length_cons, List.length_nil, List.length_append]; omega)) rfl ?_
    (first | refine yn 12 rfl ?_ | refine ynt 12 rfl ?_ | refine ynff 12 rfl ?_)
    refine wy_done (by kernel_rfl) (fun w hc => ?_)
    have hM := hM.call hc
    repeat (first | refine gs ?_ | (refine ks ?_; intro w hM))
    exact x_goes (n - 1) rfl (by omega) ⟨i + 1, exj (by rw [hnx, hq]; rfl), by omega, hM⟩
  rw [decide_eq_true (by omega : (c.toNat : Int) ≤ 126)]
  repeat (first | refine gs ?_ | (refine ks ?_; intro w hM))
  by_cases h3 : c = 39
  · have hq := hqf (by rw [h3]; rfl)
    have h3' : (c.toNat : Int) = 39 := by rw [h3]; rfl
    rw [decide_eq_false (show ¬ ((c.toNat : Int) ≠ 39) from fun h => h h3')]
    repeat (first | refine gs ?_ | (refine ks ?_; intro w hM))
    refine c_condb rfl (fun h => by cases h) (fun _ => ?_)
    repeat (first | refine gs ?_ | (refine ks ?_; intro w hM))
    simp only [quo16, rem16]
    refine c_ordY ([], []) [] (by kernel_rfl) (by kernel_rfl) (by kernel_rfl) (fun w hc hs => ?_)
    have hM := hM.call hc
    (first | refine yn 0 rfl ?_ | refine ynt 0 rfl ?_ | refine ynff 0 rfl ?_); (first | refine yn 1 rfl ?_ | refine ynt 1 rfl ?_ | refine ynff 1 rfl ?_); (first | refine yn 2 rfl ?_ | refine ynt 2 rfl ?_ | refine ynff 2 rfl ?_); (first | refine yn 3 rfl ?_ | refine ynt 3 rfl ?_ | refine ynff 3 rfl ?_)
    refine ynp 4 rfl (by kernel_rfl) (by kernel_rfl) (fun _ => (r_subLH (s := hexsB) (i := ((c.toNat / 16 : Nat) : Int)) (j := ((c.toNat / 16 : Nat) : Int) + 1) rfl rfl rfl (by omega) (by omega) (by simp only [List.length_cons, List.length_nil]; omega)).trans (by rw [show (((c.toNat / 16 : Nat) : Int) + 1).toNat = c.toNat / 16 + 1 by omega, Int.toNat_natCast, hx1])) rfl ?_
    refine ynp 5 rfl (by kernel_rfl) (by kernel_rfl) (fun _ => r_addS (a := [37]) (b := [hexd (c.toNat / 16)]) rfl rfl (by simp)) rfl ?_
    (first | refine yn 6 rfl ?_ | refine ynt 6 rfl ?_ | refine ynff 6 rfl ?_); (first | refine yn 7 rfl ?_ | refine ynt 7 rfl ?_ | refine ynff 7 rfl ?_); (first | refine yn 8 rfl ?_ | refine ynt 8 rfl ?_ | refine ynff 8 rfl ?_)
    refine ynp 9 rfl (by kernel_rfl) (by kernel_rfl) (fun _ => (r_subLH (s := hexsB) (i := ((c.toNat % 16 : Nat) : Int)) (j := ((c.toNat % 16 : Nat) : Int) + 1) rfl rfl rfl (by omega) (by omega) (by simp only [List.length_cons, List.length_nil]; omega)).trans (by rw [show (((c.toNat % 16 : Nat) : Int) + 1).toNat = c.toNat % 16 + 1 by omega, Int.toNat_natCast, hx2])) rfl ?_
    refine ynp 10 rfl (by kernel_rfl) (by kernel_rfl) (fun _ => r_addS (a := [37] ++ [hexd (c.toNat / 16)]) (b := [hexd (c.toNat % 16)]) rfl rfl (by simp)) rfl ?_
    refine ynp 11 rfl (by kernel_rfl) (by kernel_rfl) (fun _ => r_addS (a := 39 :: (s.take i).flatMap quoC) (b := [37] ++ [hexd (c.toNat / 16)] ++ [hexd (c.toNat % 16)]) rfl rfl (by simp only [List.length_cons, List.length_nil, List.length_append]; omega)) rfl ?_
    (first | refine yn 12 rfl ?_ | refine ynt 12 rfl ?_ | refine ynff 12 rfl ?_)
    refine wy_done (by kernel_rfl) (fun w hc => ?_)
    have hM := hM.call hc
    repeat (first | refine gs ?_ | (refine ks ?_; intro w hM))
    exact x_goes (n - 1) rfl (by omega) ⟨i + 1, exj (by rw [hnx, hq]; rfl), by omega, hM⟩
  rw [decide_eq_true (show (c.toNat : Int) ≠ 39 from fun h => h3 (UInt8.toNat_inj.1 (by show c.toNat = 39; omega)))]
  repeat (first | refine gs ?_ | (refine ks ?_; intro w hM))
  by_cases h4 : c = 37
  · have hq := hqf (by rw [h4]; rfl)
    have h4' : (c.toNat : Int) = 37 := by rw [h4]; rfl
    rw [decide_eq_false (show ¬ ((c.toNat : Int) ≠ 37) from fun h => h h4')]
    repeat (first | refine gs ?_ | (refine ks ?_; intro w hM))
    refine c_condb rfl (fun h => by cases h) (fun _ => ?_)
    repeat (first | refine gs ?_ | (refine ks ?_; intro w hM))
    simp only [quo16, rem16]
    refine c_ordY ([], []) [] (by kernel_rfl) (by kernel_rfl) (by kernel_rfl) (fun w hc hs => ?_)
    have hM := hM.call hc
    (first | refine yn 0 rfl ?_ | refine ynt 0 rfl ?_ | refine ynff 0 rfl ?_); (first | refine yn 1 rfl ?_ | refine ynt 1 rfl ?_ | refine ynff 1 rfl ?_); (first | refine yn 2 rfl ?_ | refine ynt 2 rfl ?_ | refine ynff 2 rfl ?_); (first | refine yn 3 rfl ?_ | refine ynt 3 rfl ?_ | refine ynff 3 rfl ?_)
    refine ynp 4 rfl (by kernel_rfl) (by kernel_rfl) (fun _ => (r_subLH (s := hexsB) (i := ((c.toNat / 16 : Nat) : Int)) (j := ((c.toNat / 16 : Nat) : Int) + 1) rfl rfl rfl (by omega) (by omega) (by simp only [List.length_cons, List.length_nil]; omega)).trans (by rw [show (((c.toNat / 16 : Nat) : Int) + 1).toNat = c.toNat / 16 + 1 by omega, Int.toNat_natCast, hx1])) rfl ?_
    refine ynp 5 rfl (by kernel_rfl) (by kernel_rfl) (fun _ => r_addS (a := [37]) (b := [hexd (c.toNat / 16)]) rfl rfl (by simp)) rfl ?_
    (first | refine yn 6 rfl ?_ | refine ynt 6 rfl ?_ | refine ynff 6 rfl ?_); (first | refine yn 7 rfl ?_ | refine ynt 7 rfl ?_ | refine ynff 7 rfl ?_); (first | refine yn 8 rfl ?_ | refine ynt 8 rfl ?_ | refine ynff 8 rfl ?_)
    refine ynp 9 rfl (by kernel_rfl) (by kernel_rfl) (fun _ => (r_subLH (s := hexsB) (i := ((c.toNat % 16 : Nat) : Int)) (j := ((c.toNat % 16 : Nat) : Int) + 1) rfl rfl rfl (by omega) (by omega) (by simp only [List.length_cons, List.length_nil]; omega)).trans (by rw [show (((c.toNat % 16 : Nat) : Int) + 1).toNat = c.toNat % 16 + 1 by omega, Int.toNat_natCast, hx2])) rfl ?_
    refine ynp 10 rfl (by kernel_rfl) (by kernel_rfl) (fun _ => r_addS (a := [37] ++ [hexd (c.toNat / 16)]) (b := [hexd (c.toNat % 16)]) rfl rfl (by simp)) rfl ?_
    refine ynp 11 rfl (by kernel_rfl) (by kernel_rfl) (fun _ => r_addS (a := 39 :: (s.take i).flatMap quoC) (b := [37] ++ [hexd (c.toNat / 16)] ++ [hexd (c.toNat % 16)]) rfl rfl (by simp only [List.length_cons, List.length_nil, List.length_append]; omega)) rfl ?_
    (first | refine yn 12 rfl ?_ | refine ynt 12 rfl ?_ | refine ynff 12 rfl ?_)
    refine wy_done (by kernel_rfl) (fun w hc => ?_)
    have hM := hM.call hc
    repeat (first | refine gs ?_ | (refine ks ?_; intro w hM))
    exact x_goes (n - 1) rfl (by omega) ⟨i + 1, exj (by rw [hnx, hq]; rfl), by omega, hM⟩
  rw [decide_eq_true (show (c.toNat : Int) ≠ 37 from fun h => h4 (UInt8.toNat_inj.1 (by show c.toNat = 37; omega)))]
  have hq := hqt (by unfold selfB; rw [decide_eq_true h1, decide_eq_true h2]; simp [h3, h4])
  repeat (first | refine gs ?_ | (refine ks ?_; intro w hM))
  refine c_condb rfl (fun _ => ?_) (fun h => by cases h)
  repeat (first | refine gs ?_ | (refine ks ?_; intro w hM))
  rw [show ((i : Int) + 1).toNat = i + 1 by omega, Int.toNat_natCast, hsub]
  repeat (first | refine gs ?_ | (refine ks ?_; intro w hM))
  (try ((with_reducible apply is_gd); first | refine gt ?_ | refine gf ?_ | refine gu ?_)); refine wl_val (r_addS (a := 39 :: (s.take i).flatMap quoC) (b := [c]) rfl rfl (by simp only [List.length_cons, List.length_nil]; omega)) ?_
  repeat (first | refine gs ?_ | (refine ks ?_; intro w hM))
  exact x_goes (n - 1) rfl (by omega) ⟨i + 1, exj (by rw [hnx, hq]; rfl), by omega, hM⟩
theorem dig_sub {n : Nat} (h : n < 10) : (([48, 49, 50, 51, 52, 53, 54, 55, 56, 57] : List UInt8).take (n + 1)).drop n = [UInt8.ofNat (48 + n)] := by
  have : ∀ n : Fin 10, (([48, 49, 50, 51, 52, 53, 54, 55, 56, 57] : List UInt8).take (n.1 + 1)).drop n.1 = [UInt8.ofNat (48 + n.1)] := by decide
  exact this ⟨n, h⟩
set_option maxHeartbeats 8000000 in
theorem rdigits_any (N : Nat) (w0 : World) (hN : N ≤ 1000000000000) :
    Calls Tryz.prog 94 #[.int .i64 (N : Int)] w0 (Ret fun u w' => u = .string (bst (Lib.decDigits N)) ∧ Ch [] w0 w') := by
  have hM := Mem.start w0
  refine enter [.int .i64 (N : Int), undef, undef, undef, undef, undef, undef, undef, undef, undef, undef, undef, undef, undef, undef, undef, undef] Tryz.func94 rfl rfl ?_
  repeat (first | refine gs ?_ | (refine ks ?_; intro w hM))
  
  refine c_loop (fun n l w => ∃ (m : Nat) (acc : List UInt8), (∃ jj : Nat → Value, l = [.int .i64 (m : Int), jj 1, jj 2, .string (bst acc), jj 4, jj 5, jj 6, jj 7, jj 8, jj 9, jj 10, jj 11, jj 12, jj 13, jj 14, jj 15, jj 16]) ∧ n = m ∧ acc.length + m ≤ N ∧ Lib.decDigits N = Lib.decDigits m ++ acc ∧ Mem [] w0 w []) N
    ⟨N, [], exj rfl, rfl, by simp, by simp, hM⟩ ?_
  clear hM
  rintro n l w ⟨m, acc, ⟨jj, rfl⟩, hn, hal, hacc, hM⟩
  have hsub := dig_sub (n := m % 10) (by omega)
  repeat (first | refine gs ?_ | (refine ks ?_; intro w hM))
  have e10 : (m : Int).tmod 10 = ((m % 10 : Nat) : Int) := by rw [Int.tmod_eq_emod_of_nonneg (by omega)]; omega
  simp only [e10]
  rw [wrap_i64 (a := ((m % 10 : Nat) : Int) + 1) (by omega)]
  (try ((with_reducible apply is_gd); first | refine gt ?_ | refine gf ?_ | refine gu ?_)); refine wl_val (r_subLH (s := [48, 49, 50, 51, 52, 53, 54, 55, 56, 57]) (i := ((m % 10 : Nat) : Int)) (j := ((m % 10 : Nat) : Int) + 1) rfl rfl rfl (by omega) (by omega) (by simp only [List.length_cons, List.length_nil]; omega)) ?_
  rw [show (((m % 10 : Nat) : Int) + 1).toNat = m % 10 + 1 by omega, Int.toNat_natCast, hsub]
  repeat (first | refine gs ?_ | (refine ks ?_; intro w hM))
  (try ((with_reducible apply is_gd); first | refine gt ?_ | refine gf ?_ | refine gu ?_)); refine wl_val (r_addS (a := [UInt8.ofNat (48 + m % 10)]) (b := acc) rfl rfl (by simp only [List.length_cons, List.length_nil]; omega)) ?_
  repeat (first | refine gs ?_ | (refine ks ?_; intro w hM))
  have e11 : IntKind.i64.wrap ((m : Int).tdiv 10) = ((m / 10 : Nat) : Int) := by
    rw [Int.tdiv_eq_ediv_of_nonneg (by omega), wrap_i64 (by omega)]
    omega
  simp only [e11]
  have hacc2 : m < 10 → Lib.decDigits m = [UInt8.ofNat (48 + m % 10)] := fun h => by rw [Lib.decDigits, dif_pos h, Nat.mod_eq_of_lt h]
  have hacc3 : ¬ m < 10 → Lib.decDigits m = Lib.decDigits (m / 10) ++ [UInt8.ofNat (48 + m % 10)] := fun h => by rw [Lib.decDigits, dif_neg h]
  by_cases h0 : m < 10
  · rw [decide_eq_true (by omega : ((m / 10 : Nat) : Int) = 0)]
    refine c_condb rfl (fun _ => ?_) (fun h => by cases h)
    repeat (first | refine gs ?_ | (refine ks ?_; intro w hM))
    exact out1 rfl ⟨by rw [hacc, hacc2 h0]; rfl, hM.ch⟩
  · rw [decide_eq_false (by omega : ¬ ((m / 10 : Nat) : Int) = 0)]
    refine c_condb rfl (fun h => by cases h) (fun _ => ?_)
    repeat (first | refine gs ?_ | (refine ks ?_; intro w hM))
    exact x_goes (m / 10) rfl (by omega) ⟨m / 10, UInt8.ofNat (48 + m % 10) :: acc, exj rfl, rfl, by rw [List.length_cons]; omega, by rw [hacc, hacc3 h0]; simp, hM⟩
end Go.Proofs.YtoimhmphhffelaaGreatDoor
set_option linter.unusedVariables false
set_option linter.unusedSimpArgs false
namespace Go.Proofs.YtoimhmphhffelaaGreatDoor
open Go Go.RowKit Go.Proofs.E
attribute [local irreducible] Go.wpList Go.Code.wp Go.Proofs.E.exec Go.Proofs.E.wpLexG
end Go.Proofs.YtoimhmphhffelaaGreatDoor

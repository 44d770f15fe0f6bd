/- Walk of law 34: the document's Parse.
   Walk of law 34: the program's Parse, whole.
   Walk of law 34: the program's reader of tests.
   Walk of law 34: the program's Parse.
   Walks of law 34: quoted texts and numbers printed, both.
   Walks of law 34: numbers by the library; whether a query may be, both.
   Walks of law 34: whether two queries are alike, both; a query of the program's as one of the document's.
   Walk of law 34: the document's Print.
   Walk of law 34: the document's Parse, whole. -/
import Derived.Test.YtoimhmphhffelaaDoorQQueryBack20
import Derived.Test.YtoimhmphhffelaaDoorQQueryBack21
set_option linter.unusedVariables false
set_option linter.unusedSimpArgs false
namespace Go.Proofs.E
open Go Go.RowKit
theorem Mem.rowRd1 {O : List Nat} {w0 w : World} {L L' L'' : List As} {α : Type} {en : En α} {E F : TypeId} {v : Value} {xs : List α} {b : Nat} {cs : List Value} (h : Mem O w0 w L) (hb : xs.length ≤ 9223372036854775807)
    (hp : Pick L (.row en E v xs) L' := by (repeat (first | exact Go.Proofs.E.Pick.here | apply Go.Proofs.E.Pick.there))) (hq : Pick L' (.cell b cs F) L'' := by (repeat (first | exact Go.Proofs.E.Pick.here | apply Go.Proofs.E.Pick.there))) : (Ty.enc en).Rd [b] w v xs :=
  (h.row0 hp).rd (fun k hk hm => by
    have hd := (List.pairwise_cons.1 (h.pick hp).dis).1 (.cell b cs F) (hq.perm.mem_iff.2 (by simp)) k hk
    exact hd (show k = b by simpa using hm)) hb
theorem words_len (s : List UInt8) : (wordsB s).length ≤ s.length ∧ ∀ x ∈ wordsB s, x.length ≤ s.length := by
  unfold wordsB
  have : ∀ (n : Nat) (s : List UInt8), (wordsF n s).length ≤ s.length ∧ ∀ x ∈ wordsF n s, x.length ≤ s.length := by
    intro n
    induction n with
    | zero => intro s; exact ⟨by simp [wordsF], fun x hx => by cases hx⟩
    | succ n ih =>
      intro s
      unfold wordsF
      have hl := dropWhile_le (fun x => x == 32) s
      cases hd : s.dropWhile (fun x => x == 32) with
      | nil => exact ⟨by simp, fun x hx => by cases hx⟩
      | cons c t =>
        rw [hd] at hl
        have hc : c ≠ 32 := by simpa using dropWhile_head hd
        have hp := wlen_pos (t := t) hc
        obtain ⟨h1, h2⟩ := ih ((c :: t).drop (wlen (c :: t)))
        rw [List.length_drop] at h1 h2
        simp only [List.length_cons] at hl h1 h2 ⊢
        refine ⟨by omega, fun x hx => ?_⟩
        rcases List.mem_cons.1 hx with rfl | hx
        · rw [List.length_take]; simp; omega
        · have := h2 x hx; omega
  exact this _ _
end Go.Proofs.E
namespace Go.Proofs.YtoimhmphhffelaaDoor
open Go Go.RowKit Go.Proofs.E
attribute [local irreducible] Go.wpList Go.Code.wp Go.Proofs.E.exec Go.Proofs.E.wpLexG
abbrev quC (at_ : Int) (fr to_ : List UInt8) (vt : Value) (back : Bool) (skip lim : Int) (cnt : Bool) : List Value := [.int .i64 at_, .string (bst fr), .string (bst to_), vt, .bool back, .int .i64 skip, .int .i64 lim, .bool cnt]
theorem see_t {α : Type} {wo : List (List UInt8)} {x : List UInt8} {s : PS} (h : qSees wo x s = true) : s.2 = false ∧ s.1 < wo.length ∧ seeS wo x s = (s.1 + 1, false) ∧ ∀ (f : List UInt8 → Option α) (d : α), qSt wo x f s = qAft (qGet wo f (s.1 + 1, false)) (s.1 + 1, false) ∧ qVal wo x f d s = qGet wo f (s.1 + 1, false) := by
  have hb : s.2 = false := by
    cases hs : s.2 with
    | false => rfl
    | true => rw [sees_bad hs] at h; cases h
  have hi : s.1 < wo.length := by
    rcases Nat.lt_or_ge s.1 wo.length with q | q
    · exact q
    · rw [see_none (.inr q)] at h; cases h
  refine ⟨hb, hi, ?_, fun f d => ⟨?_, ?_⟩⟩
  · unfold seeS; rw [if_pos h, hb]
  · unfold qSt; rw [if_pos h]
  · unfold qVal; rw [if_pos h]
theorem see_f {α : Type} {wo : List (List UInt8)} {x : List UInt8} {s : PS} (h : qSees wo x s = false) : seeS wo x s = s ∧ ∀ (f : List UInt8 → Option α) (d : α), qSt wo x f s = s ∧ qVal wo x f d s = some d := by
  refine ⟨?_, fun f d => ⟨?_, ?_⟩⟩
  · unfold seeS; rw [if_neg (by rw [h]; simp)]
  · unfold qSt; rw [if_neg (by rw [h]; simp)]
  · unfold qVal; rw [if_neg (by rw [h]; simp)]
theorem st_le {α : Type} {wo : List (List UInt8)} {x : List UInt8} {f : List UInt8 → Option α} {s : PS} (h : s.1 ≤ wo.length) : (qSt wo x f s).1 ≤ wo.length := by
  cases q : qSees wo x s with
  | true =>
    obtain ⟨_, h2, _, h4⟩ := see_t (α := α) q
    by_cases hd : Nonempty α
    · obtain ⟨d⟩ := hd
      rw [(h4 f d).1]
      exact aft_le (by simp only; omega)
    · unfold qSt
      rw [if_pos q]
      exact aft_le (by simp only; omega)
  | false =>
    unfold qSt
    rw [if_neg (by rw [q]; simp)]
    exact h
/-- What Parse hands back. -/
def ParsePost (T : TypeId) (s : List UInt8) (w0 : World) (u : Value) (w' : World) : Prop :=
  ∃ vt, u = .tuple #[.agg (quC (parseQ s).1.at_ (parseQ s).1.fr (parseQ s).1.to_ vt (parseQ s).1.back (parseQ s).1.skip (parseQ s).1.lim (parseQ s).1.cnt).toArray, .int .i64 ((parseQ s).2.1 : Int), .int .i64 ((parseQ s).2.2 : Int)] ∧ Mem [] w0 w' [.row eTs T vt (parseQ s).1.ts]
theorem tests_step {wo : List (List UInt8)} {n : Nat} {j : List UInt8} {l : List TsV} {s : PS} (h : qSees wo j s = true) (hl : l.length ≠ 50) : qTests wo (n + 1) j l s = qTests wo n wAnd (l ++ [(qTest wo (s.1 + 1, false)).1.getD (0, 0, [])]) (qTest wo (s.1 + 1, false)).2 := by
  unfold qTests
  rw [if_pos h, if_neg hl]
  cases n <;> rfl
theorem tests_full {wo : List (List UInt8)} {n : Nat} {j : List UInt8} {l : List TsV} {s : PS} (h : qSees wo j s = true) (hl : l.length = 50) : qTests wo (n + 1) j l s = (l, (s.1, true)) := by
  unfold qTests
  rw [if_pos h, if_pos hl]
theorem tests_off {wo : List (List UInt8)} {n : Nat} {j : List UInt8} {l : List TsV} {s : PS} (h : qSees wo j s = false) : qTests wo (n + 1) j l s = (l, s) := by
  unfold qTests
  rw [if_neg (by rw [h]; simp)]
theorem test_le {wo : List (List UInt8)} {s : PS} (h : s.1 ≤ wo.length) : (qTest wo s).2.1 ≤ wo.length := by
  unfold qTest
  exact aft_le (aft_le (aft_le h))
theorem test_val {wo : List (List UInt8)} {s : PS} {t : TsV} {l l' : List TsV} {b : Bool} (ht : ∀ a, (qTest wo s).1 = some a → t = a) (hll : l'.length = l.length) (hl : l' = l) : (l' ++ [t]).length = (l ++ [(qTest wo s).1.getD (0, 0, [])]).length ∧ ((qTest wo s).2.2 = false → l' ++ [t] = l ++ [(qTest wo s).1.getD (0, 0, [])]) := by
  refine ⟨by simp [hll], fun hb => ?_⟩
  obtain ⟨_, a, ha, _⟩ := test_ok hb
  rw [ha, hl, ht a ha]
  rfl
theorem tests_le {wo : List (List UInt8)} : ∀ {n : Nat} {j : List UInt8} {l : List TsV} {s : PS}, s.1 ≤ wo.length → (qTests wo n j l s).2.1 ≤ wo.length
  | 0, j, l, s, h => h
  | n + 1, j, l, s, h => by
    unfold qTests
    split
    · rename_i q
      split
      · exact h
      · exact tests_le (test_le (by show s.1 + 1 ≤ wo.length; exact (see_t (α := Int) q).2.1))
    · exact h
theorem all_vals {wo : List (List UInt8)} (h : (st8 wo).2 = false) : (∃ a, qVal wo wAt numI (-1) (st1 wo) = some a) ∧ (∃ a, qVal wo wFrom textQ [] (st2 wo) = some a) ∧ (∃ a, qVal wo wTo textQ [] (st3 wo) = some a) ∧ (st5 wo).2 = false ∧ (∃ a, qVal wo wSkip numI 0 (st6 wo) = some a) ∧ (∃ a, qVal wo wLimit numI (-1) (st7 wo) = some a) := by
  obtain ⟨h7, vL, eL⟩ := qst_ok (d := (-1 : Int)) h
  obtain ⟨h6, vS, eS⟩ := qst_ok (d := (0 : Int)) h7
  have h5 : (st5 wo).2 = false := by
    unfold st6 at h6
    split at h6
    · rename_i q
      cases hs : (st5 wo).2 with
      | false => rfl
      | true => rw [sees_bad hs] at q; cases q
    · exact h6
  obtain ⟨h4, t1, t2⟩ := tests_right h5 (by simp) (by simp)
  obtain ⟨h3, vT, eT⟩ := qst_ok (d := ([] : List UInt8)) h4
  obtain ⟨h2, vF, eF⟩ := qst_ok (d := ([] : List UInt8)) h3
  obtain ⟨h1, vA, eA⟩ := qst_ok (d := (-1 : Int)) h2
  exact ⟨⟨vA, eA⟩, ⟨vF, eF⟩, ⟨vT, eT⟩, h5, ⟨vS, eS⟩, ⟨vL, eL⟩⟩
end Go.Proofs.YtoimhmphhffelaaDoor
set_option linter.unusedVariables false
set_option linter.unusedSimpArgs false
namespace Go.Proofs.YtoimhmphhffelaaDoor
open Go Go.RowKit Go.Proofs.E
attribute [local irreducible] Go.wpList Go.Code.wp Go.Proofs.E.exec Go.Proofs.E.wpLexG
theorem optV_getD {α : Type} {vf : α → Value} {z : α} {o : Option α} : optV vf (vf z) o = vf (o.getD z) := by cases o <;> rfl
set_option maxHeartbeats 8000000 in
theorem clause_any {Post : World → Prop} (b5 bR : Nat) (x : List UInt8) (vl : Value) (wo : List (List UInt8)) (s : PS) (g : FuncId) (fn : Func) (lb : Array Value) [hF : Fun Tryd.prog g fn] (w0 : World) (T5 : TypeId) (h5 : Blk w0 b5 [.pointer (some ⟨bR, 0, none⟩)] T5) (hB : Blk w0 bR (rdC vl s) 39) (hn5 : b5 ∉ [bR]) (hW : (Ty.enc eBs).Rd [bR] w0 vl wo) (hs : s.1 ≤ wo.length) (hl : wo.length ≤ 100000)
    (hT : qSees wo x s = true → ∀ w1, Ch [bR] w0 w1 → Blk w1 bR (rdC vl (s.1 + 1, false)) 39 → Calls Tryd.prog g lb w1 (Ret fun u w2 => Post w2))
    (hF : qSees wo x s = false → ∀ w1, Ch [bR] w0 w1 → Blk w1 bR (rdC vl s) 39 → Post w1) :
    Calls Tryd.prog 13 #[.string (bst x), .func (.func g) #[] lb, .pointer (some ⟨b5, 0, none⟩)] w0 (Ret fun u w' => Post w') := by
  have hM := Mem.take hB
  refine enter [.string (bst x), .func (.func g) #[] lb, .pointer (some ⟨b5, 0, none⟩), undef, undef, undef, undef, undef, undef, undef] Tryd.func13 rfl rfl ?_
  repeat (first | refine gs ?_ | (refine ks ?_; intro w hM))
  refine ca (sees_any bR vl wo s x w0 hB hW hs hl) ?_
  rintro _ w2 ⟨rfl, hc, hB2⟩
  have hM := hM.cellSet hB2 hc
  repeat (first | refine gs ?_ | (refine ks ?_; intro w hM))
  cases hq : qSees wo x s with
  | true =>
    rw [(see_t (α := Int) hq).2.2.1] at hB2
    refine c_condb rfl (fun _ => ?_) (fun h => by cases h)
    repeat (first | refine gs ?_ | (refine ks ?_; intro w hM))
    refine kcd (f := g) (vs := []) (lb := lb) (by simpa using hT hq w2 hc hB2) ?_
    intro v w3 hP
    repeat (first | refine gs ?_ | (refine ks ?_; intro w hM))
    exact out0 rfl hP
  | false =>
    rw [(see_f (α := Int) hq).1] at hB2
    refine c_condb rfl (fun h => by cases h) (fun _ => ?_)
    repeat (first | refine gs ?_ | (refine ks ?_; intro w hM))
    exact out0 rfl (hF hq w2 hc hB2)
set_option maxHeartbeats 8000000 in
theorem thenAt_any (b5 bR b6 : Nat) (at_ : Int) (fr to_ : List UInt8) (A : Option Addr) (n c : Nat) (bk : Bool) (sk lm : Int) (ct : Bool) (vl : Value) (wo : List (List UInt8)) (s : PS) (w0 : World) (T5 : TypeId) (h5 : Blk w0 b5 [.pointer (some ⟨bR, 0, none⟩)] T5) (hB : Blk w0 bR (rdC vl s) 39) (h6 : Blk w0 b6 (quC (-1) fr to_ (.slice A n c) bk sk lm ct) 24) (hne : bR ≠ b6) (hn5 : b5 ∉ [bR, b6]) (hW : (Ty.enc eBs).Rd [bR] w0 vl wo) (hs : s.1 ≤ wo.length) (hl : wo.length ≤ 100000) (hxl : ∀ x ∈ wo, x.length ≤ 100000) :
    Calls Tryd.prog 15 #[.pointer (some ⟨b5, 0, none⟩), .pointer (some ⟨b6, 0, none⟩)] w0 (Ret fun u w' => Ch [bR, b6] w0 w' ∧ Blk w' bR (rdC vl (qAft (qGet wo numI s) s)) 39 ∧ Blk w' b6 (quC ((qGet wo numI s).getD 0) fr to_ (.slice A n c) bk sk lm ct) 24) := by
  have hM := Mem.take2 hB h6 hne
  refine enter [.pointer (some ⟨b5, 0, none⟩), .pointer (some ⟨b6, 0, none⟩), undef, undef, undef] Tryd.func15 rfl rfl ?_
  repeat (first | refine gs ?_ | (refine ks ?_; intro w hM))
  refine ca (nexti_any numI (fun n : Int => Value.int .i64 n) (fun x => Value.int .i64 ((numI x).getD 0)) 16 Tryd.f16 #[] bR vl wo s w0 hB hW hs hl (fun x w1 hx _ => number_any x w1 (hxl x hx)) (fun x a h => by rw [h]; rfl)) ?_
  rintro _ w2 ⟨rfl, hc, hB2⟩
  have hM := hM.cellSet hB2 hc
  rw [show optV (fun n : Int => Value.int .i64 n) (Value.int .i64 0) (qGet wo numI s) = (fun n : Int => Value.int .i64 n) ((qGet wo numI s).getD 0) from optV_getD (vf := (fun n : Int => Value.int .i64 n)) (z := 0)]
  repeat (first | refine gs ?_ | (refine ks ?_; intro w hM))
  exact out0 rfl ⟨hM.ch, hM.blk (b := bR) (by (repeat constructor)), hM.blk (b := b6) (by (repeat constructor))⟩
theorem clAt_any (b5 bR b6 : Nat) (at_ : Int) (fr to_ : List UInt8) (A : Option Addr) (n c : Nat) (bk : Bool) (sk lm : Int) (ct : Bool) (vl : Value) (wo : List (List UInt8)) (s : PS) (w0 : World) (T5 : TypeId) (h5 : Blk w0 b5 [.pointer (some ⟨bR, 0, none⟩)] T5) (hB : Blk w0 bR (rdC vl s) 39) (h6 : Blk w0 b6 (quC (-1) fr to_ (.slice A n c) bk sk lm ct) 24) (hne : bR ≠ b6) (hn5 : b5 ∉ [bR, b6]) (hW : (Ty.enc eBs).Rd [bR] w0 vl wo) (hs : s.1 ≤ wo.length) (hl : wo.length ≤ 100000) (hxl : ∀ x ∈ wo, x.length ≤ 100000) :
    Calls Tryd.prog 13 #[.string (bst wAt), .func (.func 15) #[] #[.pointer (some ⟨b5, 0, none⟩), .pointer (some ⟨b6, 0, none⟩)], .pointer (some ⟨b5, 0, none⟩)] w0 (Ret fun u w' => Ch [bR, b6] w0 w' ∧ Blk w' bR (rdC vl (qSt wo wAt numI s)) 39 ∧ ∃ v : Int, (∀ a, qVal wo wAt numI (-1) s = some a → v = a) ∧ Blk w' b6 (quC v fr to_ (.slice A n c) bk sk lm ct) 24) := by
  have hn5a : b5 ∉ [bR] := fun h => hn5 (by simp at h; simp [h])
  have h6n : b6 ∉ [bR] := fun h => hne (by simp at h; exact h.symm)
  refine clause_any (Post := fun w' => Ch [bR, b6] w0 w' ∧ Blk w' bR (rdC vl (qSt wo wAt numI s)) 39 ∧ ∃ v : Int, (∀ a, qVal wo wAt numI (-1) s = some a → v = a) ∧ Blk w' b6 (quC v fr to_ (.slice A n c) bk sk lm ct) 24) b5 bR wAt vl wo s 15 Tryd.f15 #[.pointer (some ⟨b5, 0, none⟩), .pointer (some ⟨b6, 0, none⟩)] w0 T5 h5 hB hn5a hW hs hl (fun hq w1 hc hB1 => ?_) (fun hq w1 hc hB1 => ?_)
  · obtain ⟨e0, e1, _, e2⟩ := see_t (α := Int) hq
    refine (thenAt_any b5 bR b6 at_ fr to_ A n c bk sk lm ct vl wo (s.1 + 1, false) w1 T5 (h5.ch hc hn5a) hB1 (h6.ch hc h6n) hne hn5 (hW.ch hc) (by show s.1 + 1 ≤ wo.length; omega) hl hxl).mono fun e w2 ⟨u, he, h1, h2, h3⟩ => ⟨u, he, hc.trans h1 (fun x _ h => by simp at h; simp [h]) (fun x _ h => h), ?_, _, fun a ha => ?_, h3⟩
    · rw [(e2 numI (-1)).1]; exact h2
    · rw [(e2 numI (-1)).2] at ha
      rw [ha]
      rfl
  · obtain ⟨_, e2⟩ := see_f (α := Int) hq
    refine ⟨hc.mono (fun x _ h => by simp at h; simp [h]), ?_, (-1), fun a ha => ?_, h6.ch hc h6n⟩
    · rw [(e2 numI (-1)).1]; exact hB1
    · rw [(e2 numI (-1)).2] at ha
      injection ha
set_option maxHeartbeats 8000000 in
theorem thenFr_any (b5 bR b6 : Nat) (at_ : Int) (fr to_ : List UInt8) (A : Option Addr) (n c : Nat) (bk : Bool) (sk lm : Int) (ct : Bool) (vl : Value) (wo : List (List UInt8)) (s : PS) (w0 : World) (T5 : TypeId) (h5 : Blk w0 b5 [.pointer (some ⟨bR, 0, none⟩)] T5) (hB : Blk w0 bR (rdC vl s) 39) (h6 : Blk w0 b6 (quC at_ [] to_ (.slice A n c) bk sk lm ct) 24) (hne : bR ≠ b6) (hn5 : b5 ∉ [bR, b6]) (hW : (Ty.enc eBs).Rd [bR] w0 vl wo) (hs : s.1 ≤ wo.length) (hl : wo.length ≤ 100000) (hxl : ∀ x ∈ wo, x.length ≤ 100000) :
    Calls Tryd.prog 17 #[.pointer (some ⟨b5, 0, none⟩), .pointer (some ⟨b6, 0, none⟩)] w0 (Ret fun u w' => Ch [bR, b6] w0 w' ∧ Blk w' bR (rdC vl (qAft (qGet wo textQ s) s)) 39 ∧ Blk w' b6 (quC at_ ((qGet wo textQ s).getD []) to_ (.slice A n c) bk sk lm ct) 24) := by
  have hM := Mem.take2 hB h6 hne
  refine enter [.pointer (some ⟨b5, 0, none⟩), .pointer (some ⟨b6, 0, none⟩), undef, undef, undef] Tryd.func17 rfl rfl ?_
  repeat (first | refine gs ?_ | (refine ks ?_; intro w hM))
  refine ca (nexts_any textQ (fun n : List UInt8 => Value.string (bst n)) (fun x => Value.string (bst (textV x))) 19 Tryd.f19 #[] bR vl wo s w0 hB hW hs hl (fun x w1 hx _ => unquote_any x w1 (hxl x hx)) (fun x a h => by rw [textV_of h])) ?_
  rintro _ w2 ⟨rfl, hc, hB2⟩
  have hM := hM.cellSet hB2 hc
  rw [show optV (fun n : List UInt8 => Value.string (bst n)) (Value.string (bst [])) (qGet wo textQ s) = (fun n : List UInt8 => Value.string (bst n)) ((qGet wo textQ s).getD []) from optV_getD (vf := (fun n : List UInt8 => Value.string (bst n))) (z := [])]
  repeat (first | refine gs ?_ | (refine ks ?_; intro w hM))
  exact out0 rfl ⟨hM.ch, hM.blk (b := bR) (by (repeat constructor)), hM.blk (b := b6) (by (repeat constructor))⟩
theorem clFr_any (b5 bR b6 : Nat) (at_ : Int) (fr to_ : List UInt8) (A : Option Addr) (n c : Nat) (bk : Bool) (sk lm : Int) (ct : Bool) (vl : Value) (wo : List (List UInt8)) (s : PS) (w0 : World) (T5 : TypeId) (h5 : Blk w0 b5 [.pointer (some ⟨bR, 0, none⟩)] T5) (hB : Blk w0 bR (rdC vl s) 39) (h6 : Blk w0 b6 (quC at_ [] to_ (.slice A n c) bk sk lm ct) 24) (hne : bR ≠ b6) (hn5 : b5 ∉ [bR, b6]) (hW : (Ty.enc eBs).Rd [bR] w0 vl wo) (hs : s.1 ≤ wo.length) (hl : wo.length ≤ 100000) (hxl : ∀ x ∈ wo, x.length ≤ 100000) :
    Calls Tryd.prog 13 #[.string (bst wFrom), .func (.func 17) #[] #[.pointer (some ⟨b5, 0, none⟩), .pointer (some ⟨b6, 0, none⟩)], .pointer (some ⟨b5, 0, none⟩)] w0 (Ret fun u w' => Ch [bR, b6] w0 w' ∧ Blk w' bR (rdC vl (qSt wo wFrom textQ s)) 39 ∧ ∃ v : List UInt8, (∀ a, qVal wo wFrom textQ [] s = some a → v = a) ∧ Blk w' b6 (quC at_ v to_ (.slice A n c) bk sk lm ct) 24) := by
  have hn5a : b5 ∉ [bR] := fun h => hn5 (by simp at h; simp [h])
  have h6n : b6 ∉ [bR] := fun h => hne (by simp at h; exact h.symm)
  refine clause_any (Post := fun w' => Ch [bR, b6] w0 w' ∧ Blk w' bR (rdC vl (qSt wo wFrom textQ s)) 39 ∧ ∃ v : List UInt8, (∀ a, qVal wo wFrom textQ [] s = some a → v = a) ∧ Blk w' b6 (quC at_ v to_ (.slice A n c) bk sk lm ct) 24) b5 bR wFrom vl wo s 17 Tryd.f17 #[.pointer (some ⟨b5, 0, none⟩), .pointer (some ⟨b6, 0, none⟩)] w0 T5 h5 hB hn5a hW hs hl (fun hq w1 hc hB1 => ?_) (fun hq w1 hc hB1 => ?_)
  · obtain ⟨e0, e1, _, e2⟩ := see_t (α := List UInt8) hq
    refine (thenFr_any b5 bR b6 at_ fr to_ A n c bk sk lm ct vl wo (s.1 + 1, false) w1 T5 (h5.ch hc hn5a) hB1 (h6.ch hc h6n) hne hn5 (hW.ch hc) (by show s.1 + 1 ≤ wo.length; omega) hl hxl).mono fun e w2 ⟨u, he, h1, h2, h3⟩ => ⟨u, he, hc.trans h1 (fun x _ h => by simp at h; simp [h]) (fun x _ h => h), ?_, _, fun a ha => ?_, h3⟩
    · rw [(e2 textQ []).1]; exact h2
    · rw [(e2 textQ []).2] at ha
      rw [ha]
      rfl
  · obtain ⟨_, e2⟩ := see_f (α := List UInt8) hq
    refine ⟨hc.mono (fun x _ h => by simp at h; simp [h]), ?_, [], fun a ha => ?_, h6.ch hc h6n⟩
    · rw [(e2 textQ []).1]; exact hB1
    · rw [(e2 textQ []).2] at ha
      injection ha
set_option maxHeartbeats 8000000 in
theorem thenTo_any (b5 bR b6 : Nat) (at_ : Int) (fr to_ : List UInt8) (A : Option Addr) (n c : Nat) (bk : Bool) (sk lm : Int) (ct : Bool) (vl : Value) (wo : List (List UInt8)) (s : PS) (w0 : World) (T5 : TypeId) (h5 : Blk w0 b5 [.pointer (some ⟨bR, 0, none⟩)] T5) (hB : Blk w0 bR (rdC vl s) 39) (h6 : Blk w0 b6 (quC at_ fr [] (.slice A n c) bk sk lm ct) 24) (hne : bR ≠ b6) (hn5 : b5 ∉ [bR, b6]) (hW : (Ty.enc eBs).Rd [bR] w0 vl wo) (hs : s.1 ≤ wo.length) (hl : wo.length ≤ 100000) (hxl : ∀ x ∈ wo, x.length ≤ 100000) :
    Calls Tryd.prog 20 #[.pointer (some ⟨b5, 0, none⟩), .pointer (some ⟨b6, 0, none⟩)] w0 (Ret fun u w' => Ch [bR, b6] w0 w' ∧ Blk w' bR (rdC vl (qAft (qGet wo textQ s) s)) 39 ∧ Blk w' b6 (quC at_ fr ((qGet wo textQ s).getD []) (.slice A n c) bk sk lm ct) 24) := by
  have hM := Mem.take2 hB h6 hne
  refine enter [.pointer (some ⟨b5, 0, none⟩), .pointer (some ⟨b6, 0, none⟩), undef, undef, undef] Tryd.func20 rfl rfl ?_
  repeat (first | refine gs ?_ | (refine ks ?_; intro w hM))
  refine ca (nexts_any textQ (fun n : List UInt8 => Value.string (bst n)) (fun x => Value.string (bst (textV x))) 19 Tryd.f19 #[] bR vl wo s w0 hB hW hs hl (fun x w1 hx _ => unquote_any x w1 (hxl x hx)) (fun x a h => by rw [textV_of h])) ?_
  rintro _ w2 ⟨rfl, hc, hB2⟩
  have hM := hM.cellSet hB2 hc
  rw [show optV (fun n : List UInt8 => Value.string (bst n)) (Value.string (bst [])) (qGet wo textQ s) = (fun n : List UInt8 => Value.string (bst n)) ((qGet wo textQ s).getD []) from optV_getD (vf := (fun n : List UInt8 => Value.string (bst n))) (z := [])]
  repeat (first | refine gs ?_ | (refine ks ?_; intro w hM))
  exact out0 rfl ⟨hM.ch, hM.blk (b := bR) (by (repeat constructor)), hM.blk (b := b6) (by (repeat constructor))⟩
theorem clTo_any (b5 bR b6 : Nat) (at_ : Int) (fr to_ : List UInt8) (A : Option Addr) (n c : Nat) (bk : Bool) (sk lm : Int) (ct : Bool) (vl : Value) (wo : List (List UInt8)) (s : PS) (w0 : World) (T5 : TypeId) (h5 : Blk w0 b5 [.pointer (some ⟨bR, 0, none⟩)] T5) (hB : Blk w0 bR (rdC vl s) 39) (h6 : Blk w0 b6 (quC at_ fr [] (.slice A n c) bk sk lm ct) 24) (hne : bR ≠ b6) (hn5 : b5 ∉ [bR, b6]) (hW : (Ty.enc eBs).Rd [bR] w0 vl wo) (hs : s.1 ≤ wo.length) (hl : wo.length ≤ 100000) (hxl : ∀ x ∈ wo, x.length ≤ 100000) :
    Calls Tryd.prog 13 #[.string (bst wTo), .func (.func 20) #[] #[.pointer (some ⟨b5, 0, none⟩), .pointer (some ⟨b6, 0, none⟩)], .pointer (some ⟨b5, 0, none⟩)] w0 (Ret fun u w' => Ch [bR, b6] w0 w' ∧ Blk w' bR (rdC vl (qSt wo wTo textQ s)) 39 ∧ ∃ v : List UInt8, (∀ a, qVal wo wTo textQ [] s = some a → v = a) ∧ Blk w' b6 (quC at_ fr v (.slice A n c) bk sk lm ct) 24) := by
  have hn5a : b5 ∉ [bR] := fun h => hn5 (by simp at h; simp [h])
  have h6n : b6 ∉ [bR] := fun h => hne (by simp at h; exact h.symm)
  refine clause_any (Post := fun w' => Ch [bR, b6] w0 w' ∧ Blk w' bR (rdC vl (qSt wo wTo textQ s)) 39 ∧ ∃ v : List UInt8, (∀ a, qVal wo wTo textQ [] s = some a → v = a) ∧ Blk w' b6 (quC at_ fr v (.slice A n c) bk sk lm ct) 24) b5 bR wTo vl wo s 20 Tryd.f20 #[.pointer (some ⟨b5, 0, none⟩), .pointer (some ⟨b6, 0, none⟩)] w0 T5 h5 hB hn5a hW hs hl (fun hq w1 hc hB1 => ?_) (fun hq w1 hc hB1 => ?_)
  · obtain ⟨e0, e1, _, e2⟩ := see_t (α := List UInt8) hq
    refine (thenTo_any b5 bR b6 at_ fr to_ A n c bk sk lm ct vl wo (s.1 + 1, false) w1 T5 (h5.ch hc hn5a) hB1 (h6.ch hc h6n) hne hn5 (hW.ch hc) (by show s.1 + 1 ≤ wo.length; omega) hl hxl).mono fun e w2 ⟨u, he, h1, h2, h3⟩ => ⟨u, he, hc.trans h1 (fun x _ h => by simp at h; simp [h]) (fun x _ h => h), ?_, _, fun a ha => ?_, h3⟩
    · rw [(e2 textQ []).1]; exact h2
    · rw [(e2 textQ []).2] at ha
      rw [ha]
      rfl
  · obtain ⟨_, e2⟩ := see_f (α := List UInt8) hq
    refine ⟨hc.mono (fun x _ h => by simp at h; simp [h]), ?_, [], fun a ha => ?_, h6.ch hc h6n⟩
    · rw [(e2 textQ []).1]; exact hB1
    · rw [(e2 textQ []).2] at ha
      injection ha
set_option maxHeartbeats 8000000 in
theorem thenSk_any (b5 bR b6 : Nat) (at_ : Int) (fr to_ : List UInt8) (A : Option Addr) (n c : Nat) (bk : Bool) (sk lm : Int) (ct : Bool) (vl : Value) (wo : List (List UInt8)) (s : PS) (w0 : World) (T5 : TypeId) (h5 : Blk w0 b5 [.pointer (some ⟨bR, 0, none⟩)] T5) (hB : Blk w0 bR (rdC vl s) 39) (h6 : Blk w0 b6 (quC at_ fr to_ (.slice A n c) bk 0 lm ct) 24) (hne : bR ≠ b6) (hn5 : b5 ∉ [bR, b6]) (hW : (Ty.enc eBs).Rd [bR] w0 vl wo) (hs : s.1 ≤ wo.length) (hl : wo.length ≤ 100000) (hxl : ∀ x ∈ wo, x.length ≤ 100000) :
    Calls Tryd.prog 23 #[.pointer (some ⟨b5, 0, none⟩), .pointer (some ⟨b6, 0, none⟩)] w0 (Ret fun u w' => Ch [bR, b6] w0 w' ∧ Blk w' bR (rdC vl (qAft (qGet wo numI s) s)) 39 ∧ Blk w' b6 (quC at_ fr to_ (.slice A n c) bk ((qGet wo numI s).getD 0) lm ct) 24) := by
  have hM := Mem.take2 hB h6 hne
  refine enter [.pointer (some ⟨b5, 0, none⟩), .pointer (some ⟨b6, 0, none⟩), undef, undef, undef] Tryd.func23 rfl rfl ?_
  repeat (first | refine gs ?_ | (refine ks ?_; intro w hM))
  refine ca (nexti_any numI (fun n : Int => Value.int .i64 n) (fun x => Value.int .i64 ((numI x).getD 0)) 16 Tryd.f16 #[] bR vl wo s w0 hB hW hs hl (fun x w1 hx _ => number_any x w1 (hxl x hx)) (fun x a h => by rw [h]; rfl)) ?_
  rintro _ w2 ⟨rfl, hc, hB2⟩
  have hM := hM.cellSet hB2 hc
  rw [show optV (fun n : Int => Value.int .i64 n) (Value.int .i64 0) (qGet wo numI s) = (fun n : Int => Value.int .i64 n) ((qGet wo numI s).getD 0) from optV_getD (vf := (fun n : Int => Value.int .i64 n)) (z := 0)]
  repeat (first | refine gs ?_ | (refine ks ?_; intro w hM))
  exact out0 rfl ⟨hM.ch, hM.blk (b := bR) (by (repeat constructor)), hM.blk (b := b6) (by (repeat constructor))⟩
theorem clSk_any (b5 bR b6 : Nat) (at_ : Int) (fr to_ : List UInt8) (A : Option Addr) (n c : Nat) (bk : Bool) (sk lm : Int) (ct : Bool) (vl : Value) (wo : List (List UInt8)) (s : PS) (w0 : World) (T5 : TypeId) (h5 : Blk w0 b5 [.pointer (some ⟨bR, 0, none⟩)] T5) (hB : Blk w0 bR (rdC vl s) 39) (h6 : Blk w0 b6 (quC at_ fr to_ (.slice A n c) bk 0 lm ct) 24) (hne : bR ≠ b6) (hn5 : b5 ∉ [bR, b6]) (hW : (Ty.enc eBs).Rd [bR] w0 vl wo) (hs : s.1 ≤ wo.length) (hl : wo.length ≤ 100000) (hxl : ∀ x ∈ wo, x.length ≤ 100000) :
    Calls Tryd.prog 13 #[.string (bst wSkip), .func (.func 23) #[] #[.pointer (some ⟨b5, 0, none⟩), .pointer (some ⟨b6, 0, none⟩)], .pointer (some ⟨b5, 0, none⟩)] w0 (Ret fun u w' => Ch [bR, b6] w0 w' ∧ Blk w' bR (rdC vl (qSt wo wSkip numI s)) 39 ∧ ∃ v : Int, (∀ a, qVal wo wSkip numI 0 s = some a → v = a) ∧ Blk w' b6 (quC at_ fr to_ (.slice A n c) bk v lm ct) 24) := by
  have hn5a : b5 ∉ [bR] := fun h => hn5 (by simp at h; simp [h])
  have h6n : b6 ∉ [bR] := fun h => hne (by simp at h; exact h.symm)
  refine clause_any (Post := fun w' => Ch [bR, b6] w0 w' ∧ Blk w' bR (rdC vl (qSt wo wSkip numI s)) 39 ∧ ∃ v : Int, (∀ a, qVal wo wSkip numI 0 s = some a → v = a) ∧ Blk w' b6 (quC at_ fr to_ (.slice A n c) bk v lm ct) 24) b5 bR wSkip vl wo s 23 Tryd.f23 #[.pointer (some ⟨b5, 0, none⟩), .pointer (some ⟨b6, 0, none⟩)] w0 T5 h5 hB hn5a hW hs hl (fun hq w1 hc hB1 => ?_) (fun hq w1 hc hB1 => ?_)
  · obtain ⟨e0, e1, _, e2⟩ := see_t (α := Int) hq
    refine (thenSk_any b5 bR b6 at_ fr to_ A n c bk sk lm ct vl wo (s.1 + 1, false) w1 T5 (h5.ch hc hn5a) hB1 (h6.ch hc h6n) hne hn5 (hW.ch hc) (by show s.1 + 1 ≤ wo.length; omega) hl hxl).mono fun e w2 ⟨u, he, h1, h2, h3⟩ => ⟨u, he, hc.trans h1 (fun x _ h => by simp at h; simp [h]) (fun x _ h => h), ?_, _, fun a ha => ?_, h3⟩
    · rw [(e2 numI 0).1]; exact h2
    · rw [(e2 numI 0).2] at ha
      rw [ha]
      rfl
  · obtain ⟨_, e2⟩ := see_f (α := Int) hq
    refine ⟨hc.mono (fun x _ h => by simp at h; simp [h]), ?_, 0, fun a ha => ?_, h6.ch hc h6n⟩
    · rw [(e2 numI 0).1]; exact hB1
    · rw [(e2 numI 0).2] at ha
      injection ha
set_option maxHeartbeats 8000000 in
theorem thenLm_any (b5 bR b6 : Nat) (at_ : Int) (fr to_ : List UInt8) (A : Option Addr) (n c : Nat) (bk : Bool) (sk lm : Int) (ct : Bool) (vl : Value) (wo : List (List UInt8)) (s : PS) (w0 : World) (T5 : TypeId) (h5 : Blk w0 b5 [.pointer (some ⟨bR, 0, none⟩)] T5) (hB : Blk w0 bR (rdC vl s) 39) (h6 : Blk w0 b6 (quC at_ fr to_ (.slice A n c) bk sk (-1) ct) 24) (hne : bR ≠ b6) (hn5 : b5 ∉ [bR, b6]) (hW : (Ty.enc eBs).Rd [bR] w0 vl wo) (hs : s.1 ≤ wo.length) (hl : wo.length ≤ 100000) (hxl : ∀ x ∈ wo, x.length ≤ 100000) :
    Calls Tryd.prog 24 #[.pointer (some ⟨b5, 0, none⟩), .pointer (some ⟨b6, 0, none⟩)] w0 (Ret fun u w' => Ch [bR, b6] w0 w' ∧ Blk w' bR (rdC vl (qAft (qGet wo numI s) s)) 39 ∧ Blk w' b6 (quC at_ fr to_ (.slice A n c) bk sk ((qGet wo numI s).getD 0) ct) 24) := by
  have hM := Mem.take2 hB h6 hne
  refine enter [.pointer (some ⟨b5, 0, none⟩), .pointer (some ⟨b6, 0, none⟩), undef, undef, undef] Tryd.func24 rfl rfl ?_
  repeat (first | refine gs ?_ | (refine ks ?_; intro w hM))
  refine ca (nexti_any numI (fun n : Int => Value.int .i64 n) (fun x => Value.int .i64 ((numI x).getD 0)) 16 Tryd.f16 #[] bR vl wo s w0 hB hW hs hl (fun x w1 hx _ => number_any x w1 (hxl x hx)) (fun x a h => by rw [h]; rfl)) ?_
  rintro _ w2 ⟨rfl, hc, hB2⟩
  have hM := hM.cellSet hB2 hc
  rw [show optV (fun n : Int => Value.int .i64 n) (Value.int .i64 0) (qGet wo numI s) = (fun n : Int => Value.int .i64 n) ((qGet wo numI s).getD 0) from optV_getD (vf := (fun n : Int => Value.int .i64 n)) (z := 0)]
  repeat (first | refine gs ?_ | (refine ks ?_; intro w hM))
  exact out0 rfl ⟨hM.ch, hM.blk (b := bR) (by (repeat constructor)), hM.blk (b := b6) (by (repeat constructor))⟩
theorem clLm_any (b5 bR b6 : Nat) (at_ : Int) (fr to_ : List UInt8) (A : Option Addr) (n c : Nat) (bk : Bool) (sk lm : Int) (ct : Bool) (vl : Value) (wo : List (List UInt8)) (s : PS) (w0 : World) (T5 : TypeId) (h5 : Blk w0 b5 [.pointer (some ⟨bR, 0, none⟩)] T5) (hB : Blk w0 bR (rdC vl s) 39) (h6 : Blk w0 b6 (quC at_ fr to_ (.slice A n c) bk sk (-1) ct) 24) (hne : bR ≠ b6) (hn5 : b5 ∉ [bR, b6]) (hW : (Ty.enc eBs).Rd [bR] w0 vl wo) (hs : s.1 ≤ wo.length) (hl : wo.length ≤ 100000) (hxl : ∀ x ∈ wo, x.length ≤ 100000) :
    Calls Tryd.prog 13 #[.string (bst wLimit), .func (.func 24) #[] #[.pointer (some ⟨b5, 0, none⟩), .pointer (some ⟨b6, 0, none⟩)], .pointer (some ⟨b5, 0, none⟩)] w0 (Ret fun u w' => Ch [bR, b6] w0 w' ∧ Blk w' bR (rdC vl (qSt wo wLimit numI s)) 39 ∧ ∃ v : Int, (∀ a, qVal wo wLimit numI (-1) s = some a → v = a) ∧ Blk w' b6 (quC at_ fr to_ (.slice A n c) bk sk v ct) 24) := by
  have hn5a : b5 ∉ [bR] := fun h => hn5 (by simp at h; simp [h])
  have h6n : b6 ∉ [bR] := fun h => hne (by simp at h; exact h.symm)
  refine clause_any (Post := fun w' => Ch [bR, b6] w0 w' ∧ Blk w' bR (rdC vl (qSt wo wLimit numI s)) 39 ∧ ∃ v : Int, (∀ a, qVal wo wLimit numI (-1) s = some a → v = a) ∧ Blk w' b6 (quC at_ fr to_ (.slice A n c) bk sk v ct) 24) b5 bR wLimit vl wo s 24 Tryd.f24 #[.pointer (some ⟨b5, 0, none⟩), .pointer (some ⟨b6, 0, none⟩)] w0 T5 h5 hB hn5a hW hs hl (fun hq w1 hc hB1 => ?_) (fun hq w1 hc hB1 => ?_)
  · obtain ⟨e0, e1, _, e2⟩ := see_t (α := Int) hq
    refine (thenLm_any b5 bR b6 at_ fr to_ A n c bk sk lm ct vl wo (s.1 + 1, false) w1 T5 (h5.ch hc hn5a) hB1 (h6.ch hc h6n) hne hn5 (hW.ch hc) (by show s.1 + 1 ≤ wo.length; omega) hl hxl).mono fun e w2 ⟨u, he, h1, h2, h3⟩ => ⟨u, he, hc.trans h1 (fun x _ h => by simp at h; simp [h]) (fun x _ h => h), ?_, _, fun a ha => ?_, h3⟩
    · rw [(e2 numI (-1)).1]; exact h2
    · rw [(e2 numI (-1)).2] at ha
      rw [ha]
      rfl
  · obtain ⟨_, e2⟩ := see_f (α := Int) hq
    refine ⟨hc.mono (fun x _ h => by simp at h; simp [h]), ?_, (-1), fun a ha => ?_, h6.ch hc h6n⟩
    · rw [(e2 numI (-1)).1]; exact hB1
    · rw [(e2 numI (-1)).2] at ha
      injection ha
end Go.Proofs.YtoimhmphhffelaaDoor
set_option linter.unusedVariables false
set_option linter.unusedSimpArgs false
namespace Go.Proofs.YtoimhmphhffelaaDoor
open Go Go.RowKit Go.Proofs.E
attribute [local irreducible] Go.wpList Go.Code.wp Go.Proofs.E.exec Go.Proofs.E.wpLexG
/-- The two lists of words lie where they lie. -/
def LaidQ (w : World) : Prop := LaidG 0 (fieldsW.map fun x => Value.string (bst x)) w ∧ LaidG 1 (opsW.map fun x => Value.string (bst x)) w
theorem LaidQ.ch {S : List Nat} {w w' : World} (h : LaidQ w) (hc : Ch S w w') (h0 : 0 ∉ S) (h1 : 1 ∉ S) : LaidQ w' := ⟨h.1.ch hc h0, h.2.ch hc h1⟩
theorem LaidQ.fields {w : World} (h : LaidQ w) : (Ty.enc eBs).Rd [] w (.slice (some ⟨0, 0, none⟩) 3 3) fieldsW := LaidG.rd (en := eBs) (xs := fieldsW) h.1 rfl (by decide) [] (by simp)
theorem LaidQ.ops {w : World} (h : LaidQ w) : (Ty.enc eBs).Rd [] w (.slice (some ⟨1, 0, none⟩) 9 9) opsW := LaidG.rd (en := eBs) (xs := opsW) h.2 rfl (by decide) [] (by simp)
set_option maxHeartbeats 16000000 in
theorem qtests_any (bR : Nat) (vl : Value) (wo : List (List UInt8)) (s : PS) (w0 : World) (hL : LaidQ w0) (hg0 : 0 ∉ [bR]) (hg1 : 1 ∉ [bR]) (hB : Blk w0 bR (rdC vl s) 39) (hW : (Ty.enc eBs).Rd [bR] w0 vl wo) (hs : s.1 ≤ wo.length) (hl : wo.length ≤ 100000) (hxl : ∀ x ∈ wo, x.length ≤ 100000) (TS : List TsV) (s5 : PS) (hTS : qTests wo 52 wWhere [] s = (TS, s5)) :
    Calls Tryd.prog 21 #[.pointer (some ⟨bR, 0, none⟩)] w0 (Ret fun u w' => ∃ (tl : List TsV), tl.length = TS.length ∧ (s5.2 = false → tl = TS) ∧ Mem [bR] w0 w' [.cell bR (rdC vl s5) 39, .row eTs 34 u tl]) := by
  have hM := Mem.take hB
  refine enter [.pointer (some ⟨bR, 0, none⟩), undef, undef, undef, undef, undef, undef, undef, undef, undef, undef, undef, undef, undef, undef, undef, undef, undef, undef, undef, undef, undef, undef, undef, undef, undef, undef, undef, undef, undef, undef, undef, undef, undef, undef, undef, undef, undef, undef, undef] Tryd.func21 rfl rfl ?_
  repeat (first | refine gs ?_ | (refine ks ?_; intro w hM))
  have hM := hM.nilRow eTs 34
  
  refine c_loop (fun n l w => ∃ (tl0 tl : List TsV) (sx : PS) (At : Option Addr) (ct : Nat) (jn : List UInt8), (∃ jj : Nat → Value, l = [.pointer (some ⟨bR, 0, none⟩), jj 1, jj 2, .slice At tl.length ct, .string (bst jn), jj 5, jj 6, jj 7, jj 8, jj 9, jj 10, jj 11, jj 12, jj 13, jj 14, jj 15, jj 16, jj 17, jj 18, jj 19, jj 20, jj 21, jj 22, jj 23, jj 24, jj 25, jj 26, jj 27, jj 28, jj 29, jj 30, jj 31, jj 32, jj 33, jj 34, jj 35, jj 36, jj 37, jj 38, jj 39]) ∧ qTests wo n jn tl0 sx = (TS, s5) ∧ tl.length = tl0.length ∧ (sx.2 = false → tl = tl0) ∧ tl0.length + n = 52 ∧ tl0.length ≤ 50 ∧ sx.1 ≤ wo.length ∧ Mem [bR] w0 w [.cell bR (rdC vl sx) 39, .row eTs 34 (.slice At tl.length ct) tl]) 52
    ⟨[], [], s, none, 0, wWhere, exj rfl, hTS, rfl, fun _ => rfl, rfl, by simp, hs, hM.sub (by (repeat (first | exact Go.Proofs.E.Sub.refl _ | exact Go.Proofs.E.Sub.nil | (apply Go.Proofs.E.Sub.cons; (repeat (first | exact Go.Proofs.E.Pick.here | apply Go.Proofs.E.Pick.there))) | apply Go.Proofs.E.Sub.tail)))⟩ ?_
  clear hM hTS hs
  rintro n l w ⟨tl0, tl, sx, At, ct, jn, ⟨jj, rfl⟩, hTS, g1, g2, g3, g4, hzx, hM⟩
  obtain ⟨n, rfl⟩ : ∃ m, n = m + 1 := ⟨n - 1, by omega⟩
  repeat (first | refine gs ?_ | (refine ks ?_; intro w hM))
  refine ca (sees_any bR vl wo sx jn w (hM.blk (b := bR) (by (repeat constructor))) (hW.ch hM.ch) hzx hl) ?_
  rintro _ w2 ⟨rfl, hc, hB5⟩
  have hM := hM.cellSet hB5 hc
  clear hc hB5
  repeat (first | refine gs ?_ | (refine ks ?_; intro w hM))
  cases hq : qSees wo jn sx with
  | false =>
    rw [tests_off hq] at hTS
    rw [(see_f (α := Int) hq).1] at hM
    refine c_condb rfl (fun h => by cases h) (fun _ => ?_)
    repeat (first | refine gs ?_ | (refine ks ?_; intro w hM))
    injection hTS with h1 h2
    subst h1 h2
    exact out1 rfl ⟨tl, g1, g2, hM.sub (by (repeat (first | exact Go.Proofs.E.Sub.refl _ | exact Go.Proofs.E.Sub.nil | (apply Go.Proofs.E.Sub.cons; (repeat (first | exact Go.Proofs.E.Pick.here | apply Go.Proofs.E.Pick.there))) | apply Go.Proofs.E.Sub.tail)))⟩
  | true =>
  obtain ⟨hb, hi, e1, e2⟩ := see_t (α := Int) hq
  rw [e1] at hM
  refine c_condb rfl (fun _ => ?_) (fun h => by cases h)
  repeat (first | refine gs ?_ | (refine ks ?_; intro w hM))
  by_cases h50 : tl0.length = 50
  · rw [decide_eq_true (by omega : (tl.length : Int) = 50)]
    rw [tests_full hq h50] at hTS
    refine c_condb rfl (fun _ => ?_) (fun h => by cases h)
    repeat (first | refine gs ?_ | (refine ks ?_; intro w hM))
    injection hTS with h1 h2
    subst h1 h2
    refine out1 rfl ⟨tl, g1, (fun h => by cases h), ?_⟩
    have e9 : ((sx.1 + 1 : Nat) : Int) - 1 = (sx.1 : Int) := by omega
    simp only [e9] at hM
    exact hM.sub (by (repeat (first | exact Go.Proofs.E.Sub.refl _ | exact Go.Proofs.E.Sub.nil | (apply Go.Proofs.E.Sub.cons; (repeat (first | exact Go.Proofs.E.Pick.here | apply Go.Proofs.E.Pick.there))) | apply Go.Proofs.E.Sub.tail)))
  rw [decide_eq_false (by omega : ¬ (tl.length : Int) = 50)]
  rw [tests_step hq h50] at hTS
  refine c_condb rfl (fun h => by cases h) (fun _ => ?_)
  obtain ⟨s1, hs1⟩ : ∃ x : PS, (sx.1 + 1, false) = x := ⟨_, rfl⟩
  have hz1 : s1.1 ≤ wo.length := by rw [← hs1]; exact hi
  rw [hs1] at hM hTS
  obtain ⟨o1, ho1⟩ : ∃ o, qGet wo (oneB fieldsW) s1 = o := ⟨_, rfl⟩
  obtain ⟨s2, hs2⟩ : ∃ o, qAft o1 s1 = o := ⟨_, rfl⟩
  obtain ⟨o2, ho2⟩ : ∃ o, qGet wo (oneB opsW) s2 = o := ⟨_, rfl⟩
  obtain ⟨s3, hs3⟩ : ∃ o, qAft o2 s2 = o := ⟨_, rfl⟩
  obtain ⟨o3, ho3⟩ : ∃ o, qGet wo textQ s3 = o := ⟨_, rfl⟩
  obtain ⟨s4, hs4⟩ : ∃ o, qAft o3 s3 = o := ⟨_, rfl⟩
  have hz2 : s2.1 ≤ wo.length := by rw [← hs2, ← ho1]; exact aft_le hz1
  have hz3 : s3.1 ≤ wo.length := by rw [← hs3, ← ho2]; exact aft_le hz2
  have hz4 : s4.1 ≤ wo.length := by rw [← hs4, ← ho3]; exact aft_le hz3
  have hte := test_eq ho1 hs2 ho2 hs3 ho3 hs4
  repeat (first | refine gs ?_ | (refine ks ?_; intro w hM))
  (try ((with_reducible apply is_gd); first | refine gt ?_ | refine gf ?_ | refine gu ?_)); refine wl_val (r_cut_arr0 (e := 9) rfl) ?_
  refine ca (one_any _ w2) ?_
  rintro _ w3 ⟨b1, rfl, hN⟩
  have hM := hM.join hN (fun a ha => by simp only [List.mem_singleton] at ha; subst ha; trivial)
  clear hN
  have hM : Mem [bR] w0 w3 [.cell b1 [.slice (some ⟨0, 0, none⟩) 3 3] 36, .cell bR (rdC vl s1) 39, .row eTs 34 (.slice At tl.length ct) tl] := hM.sub (by (repeat (first | exact Go.Proofs.E.Sub.refl _ | exact Go.Proofs.E.Sub.nil | (apply Go.Proofs.E.Sub.cons; (repeat (first | exact Go.Proofs.E.Pick.here | apply Go.Proofs.E.Pick.there))) | apply Go.Proofs.E.Sub.tail)))
  refine ca (nexti_any (oneB fieldsW) (fun n : Int => Value.int .i64 n) (fun x => .int .i64 (idxB fieldsW x)) 33 Tryd.f33 #[.pointer (some ⟨b1, 0, none⟩)] bR vl wo s1 w3 (hM.blk (b := bR) (by (repeat constructor))) (hW.ch hM.ch) hz1 hl
    (fun x w1 _ hc => one1_any b1 _ 36 fieldsW x w1 ((hM.blk (b := b1) (by (repeat constructor))).ch hc (hM.nin (b := bR) (c := b1) (by (repeat constructor)) (by (repeat constructor)))) ((hL.ch hM.ch hg0 hg1).ch hc hg0 hg1).fields (by decide))
    (fun x a h => by unfold oneB at h; split at h; injection h with h; rw [h]; cases h)) ?_
  rintro _ w4 ⟨rfl, hc, hB4⟩
  have hM := hM.cellSet hB4 hc
  rw [ho1, hs2] at hM
  rw [ho1, show optV (fun n : Int => Value.int .i64 n) (.int .i64 0) o1 = .int .i64 (o1.getD 0) from optV_getD (vf := fun n : Int => Value.int .i64 n) (z := (0 : Int))]
  repeat (first | refine gs ?_ | (refine ks ?_; intro w hM))
  (try ((with_reducible apply is_gd); first | refine gt ?_ | refine gf ?_ | refine gu ?_)); refine wl_val (r_bldS (vs := [(0, .int .i64 (o1.getD 0))]) (tsC (o1.getD 0, 0, [])) (z := tsC (0, 0, [])) (place := (#[(0, 1), (1, 1), (2, 1)][·]?)) (by intro ps; kernel_rfl) rfl (.cons rfl rfl (by simp) (.nil rfl))) ?_
  refine kal hM (fun w5 b5 hM => ?_)
  have hM : Mem [bR] w0 w5 [.cell b5 (tsC (0, 0, [])) 34, .cell bR (rdC vl s2) 39, .row eTs 34 (.slice At tl.length ct) tl] := hM.sub (by (repeat (first | exact Go.Proofs.E.Sub.refl _ | exact Go.Proofs.E.Sub.nil | (apply Go.Proofs.E.Sub.cons; (repeat (first | exact Go.Proofs.E.Pick.here | apply Go.Proofs.E.Pick.there))) | apply Go.Proofs.E.Sub.tail)))
  refine kstw (vs := tsC (o1.getD 0, 0, [])) hM (fun w5 hM => ?_)
  repeat (first | refine gs ?_ | (refine ks ?_; intro w hM))
  (try ((with_reducible apply is_gd); first | refine gt ?_ | refine gf ?_ | refine gu ?_)); refine wl_val (r_cut_arr0 (e := 9) rfl) ?_
  refine ca (one_any _ w5) ?_
  rintro _ w6 ⟨b2, rfl, hN⟩
  have hM := hM.join hN (fun a ha => by simp only [List.mem_singleton] at ha; subst ha; trivial)
  clear hN
  have hM : Mem [bR] w0 w6 [.cell b2 [.slice (some ⟨1, 0, none⟩) 9 9] 36, .cell b5 (tsC (o1.getD 0, 0, [])) 34, .cell bR (rdC vl s2) 39, .row eTs 34 (.slice At tl.length ct) tl] := hM.sub (by (repeat (first | exact Go.Proofs.E.Sub.refl _ | exact Go.Proofs.E.Sub.nil | (apply Go.Proofs.E.Sub.cons; (repeat (first | exact Go.Proofs.E.Pick.here | apply Go.Proofs.E.Pick.there))) | apply Go.Proofs.E.Sub.tail)))
  refine ca (nexti_any (oneB opsW) (fun n : Int => Value.int .i64 n) (fun x => .int .i64 (idxB opsW x)) 33 Tryd.f33 #[.pointer (some ⟨b2, 0, none⟩)] bR vl wo s2 w6 (hM.blk (b := bR) (by (repeat constructor))) (hW.ch hM.ch) hz2 hl
    (fun x w1 _ hc => one1_any b2 _ 36 opsW x w1 ((hM.blk (b := b2) (by (repeat constructor))).ch hc (hM.nin (b := bR) (c := b2) (by (repeat constructor)) (by (repeat constructor)))) ((hL.ch hM.ch hg0 hg1).ch hc hg0 hg1).ops (by decide))
    (fun x a h => by unfold oneB at h; split at h; injection h with h; rw [h]; cases h)) ?_
  rintro _ w7 ⟨rfl, hc, hB4⟩
  have hM := hM.cellSet hB4 hc
  rw [ho2, hs3] at hM
  rw [ho2, show optV (fun n : Int => Value.int .i64 n) (.int .i64 0) o2 = .int .i64 (o2.getD 0) from optV_getD (vf := fun n : Int => Value.int .i64 n) (z := (0 : Int))]
  repeat (first | refine gs ?_ | (refine ks ?_; intro w hM))
  refine ca (nexts_any textQ (fun n : List UInt8 => Value.string (bst n)) (fun x => Value.string (bst (textV x))) 19 Tryd.f19 #[] bR vl wo s3 _ (hM.blk (b := bR) (by (repeat constructor))) (hW.ch hM.ch) hz3 hl
    (fun x w1 hx _ => unquote_any x w1 (hxl x hx)) (fun x a h => by rw [textV_of h])) ?_
  rintro _ w8 ⟨rfl, hc, hB4⟩
  have hM := hM.cellSet hB4 hc
  rw [ho3, hs4] at hM
  rw [ho3, show optV (fun n : List UInt8 => Value.string (bst n)) (.string (bst [])) o3 = .string (bst (o3.getD [])) from optV_getD (vf := fun n : List UInt8 => Value.string (bst n)) (z := ([] : List UInt8))]
  repeat (first | refine gs ?_ | (refine ks ?_; intro w hM))
  refine kpu (o1.getD 0, o2.getD 0, o3.getD []) hM (fun u v' w hM => ?_)
  obtain ⟨A7, c7, rfl, _⟩ := Own.form (hM.row0 (v := v') (by (repeat constructor)))
  repeat (first | refine gs ?_ | (refine ks ?_; intro w hM))
  rw [hte] at hTS
  have ht : ∀ a, (qTest wo s1).1 = some a → (o1.getD 0, o2.getD 0, o3.getD []) = a := fun a ha => by
    rw [hte] at ha
    cases o1 with
    | none => cases ha
    | some a1 =>
      cases o2 with
      | none => cases ha
      | some a2 =>
        cases o3 with
        | none => cases ha
        | some a3 => injection ha
  obtain ⟨k1, k2⟩ := test_val (b := true) ht g1 (g2 hb)
  rw [hte] at k1 k2
  exact x_goes n rfl (by omega) ⟨_, tl ++ [(o1.getD 0, o2.getD 0, o3.getD [])], s4, A7, c7, wAnd, exj rfl, hTS, k1, k2, by rw [List.length_append, List.length_singleton]; omega, by rw [List.length_append, List.length_singleton]; omega, hz4, hM.sub (by (repeat (first | exact Go.Proofs.E.Sub.refl _ | exact Go.Proofs.E.Sub.nil | (apply Go.Proofs.E.Sub.cons; (repeat (first | exact Go.Proofs.E.Pick.here | apply Go.Proofs.E.Pick.there))) | apply Go.Proofs.E.Sub.tail)))⟩
end Go.Proofs.YtoimhmphhffelaaDoor
set_option linter.unusedVariables false
set_option linter.unusedSimpArgs false
namespace Go.Proofs.YtoimhmphhffelaaDoor
open Go Go.RowKit Go.Proofs.E
attribute [local irreducible] Go.wpList Go.Code.wp Go.Proofs.E.exec Go.Proofs.E.wpLexG
theorem seeB_any (bR b6 : Nat) (at_ : Int) (fr to_ : List UInt8) (A : Option Addr) (n c : Nat) (sk lm : Int) (ct : Bool) (w0 : World) (h6 : Blk w0 b6 (quC at_ fr to_ (.slice A n c) false sk lm ct) 24) :
    Calls Tryd.prog 22 #[.pointer (some ⟨b6, 0, none⟩)] w0 (Ret fun u w' => Ch [b6] w0 w' ∧ Blk w' b6 (quC at_ fr to_ (.slice A n c) true sk lm ct) 24) := by
  have hM := Mem.take h6
  refine enter [.pointer (some ⟨b6, 0, none⟩), undef] Tryd.func22 rfl rfl ?_
  repeat (first | refine gs ?_ | (refine ks ?_; intro w hM))
  exact out0 rfl ⟨hM.ch, hM.blk (b := b6) (by (repeat constructor))⟩
theorem head_next {wo : List (List UInt8)} : decide ((qGet wo (oneB headsW) (0, false)).getD 0 = 2) = decide (qGet wo (oneB headsW) (0, false) = some 2) := by
  cases h : qGet wo (oneB headsW) (0, false) with
  | none => rfl
  | some a => simp
set_option maxHeartbeats 32000000 in
theorem qparse_any (s : List UInt8) (w0 : World) (hL : LaidQ w0) (hs0 : s.length ≤ 9223372036854775807) :
    Calls Tryd.prog 6 #[.string (bst s)] w0 (Ret fun u w' => ParsePost 34 s w0 u w') := by
  have hM := Mem.start w0
  have hg0 := hL.1.lt
  have hg1 := hL.2.lt
  refine enter [.string (bst s), undef, undef, undef, undef, undef, undef, undef, undef, undef, undef, undef, undef, undef, undef, undef, undef, undef, undef, undef, undef, undef, undef, undef, undef, undef, undef, undef, undef, undef, undef, undef, undef, undef, undef, undef, undef, undef, undef, undef, undef, undef, undef, undef, undef, undef, undef, undef, undef, undef, undef, undef, undef, undef, undef, undef, undef, undef, undef, undef, undef, undef, undef, undef, undef, undef, undef, undef, undef, undef] Tryd.func6 rfl rfl ?_
  repeat (first | refine gs ?_ | (refine ks ?_; intro w hM))
  refine kal hM (fun w b2 hM => ?_)
  have hM : Mem [] w0 w [.cell b2 (quC 0 [] [] (.slice none 0 0) false 0 0 false) 24] := hM
  repeat (first | refine gs ?_ | (refine ks ?_; intro w hM))
  by_cases q1 : 2000 < s.length
  · rw [decide_eq_true (by omega : (2000 : Int) < (s.length : Int))]
    refine c_condb rfl (fun _ => ?_) (fun h => by cases h)
    repeat (first | refine gs ?_ | (refine ks ?_; intro w hM))
    (try ((with_reducible apply is_gd); first | refine gt ?_ | refine gf ?_ | refine gu ?_)); refine wl_val (r_bldS (vs := []) (quC 0 [] [] (.slice none 0 0) false 0 0 false) (z := quC 0 [] [] (.slice none 0 0) false 0 0 false) (place := (#[(0, 1), (1, 1), (2, 1), (3, 1), (4, 1), (5, 1), (6, 1), (7, 1)][·]?)) (by intro ps; kernel_rfl) rfl (.nil rfl)) ?_
    repeat (first | refine gs ?_ | (refine ks ?_; intro w hM))
    refine koc12 hM rfl ⟨.slice none 0 0, ?_, ?_⟩
    · rw [parse_long q1]; rfl
    · rw [parse_long q1]
      exact hM.nil.nilRow _ _
  rw [decide_eq_false (by omega : ¬ (2000 : Int) < (s.length : Int))]
  refine c_condb rfl (fun h => by cases h) (fun _ => ?_)
  repeat (first | refine gs ?_ | (refine ks ?_; intro w hM))
  refine kcr hM (qsplit_any s w (by omega)) (fun vW w hM => ?_)
  obtain ⟨Aw, cw, rfl, _⟩ := Own.form (hM.row (v := vW) (by (repeat constructor)))
  obtain ⟨hwl, hwx⟩ := words_len s
  have hpq : parseQ s = if (st8 (wordsB s)).2 = true ∨ (st8 (wordsB s)).1 < (wordsB s).length then (zeroQ, (st8 (wordsB s)).1 + 1, 15) else (qAll (wordsB s), 0, 0) := by
    unfold parseQ
    rw [if_neg (by omega)]
  have hwx : ∀ x ∈ wordsB s, x.length ≤ 100000 := fun x hx => by have := hwx x hx; omega
  have hwl : (wordsB s).length ≤ 2000 := by omega
  generalize wordsB s = wo at hM hwl hwx hpq
  repeat (first | refine gs ?_ | (refine ks ?_; intro w hM))
  (try ((with_reducible apply is_gd); first | refine gt ?_ | refine gf ?_ | refine gu ?_)); refine wl_val (r_bldS (vs := [(0, .slice Aw wo.length cw)]) (rdC (.slice Aw wo.length cw) (0, false)) (z := rdC (.slice none 0 0) (0, false)) (place := (#[(0, 1), (1, 1), (2, 1)][·]?)) (by intro ps; kernel_rfl) rfl (.cons rfl rfl (by simp) (.nil rfl))) ?_
  refine kbx (v := .agg (rdC (.slice Aw wo.length cw) (0, false)).toArray) hM (fun w bR hM => ?_)
  repeat (first | refine gs ?_ | (refine ks ?_; intro w hM))
  refine kal hM (fun w b5 hM => ?_)
  have hM : Mem [] w0 w [.cell b5 [.pointer none] 35, .cell bR (rdC (.slice Aw wo.length cw) (0, false)) 39, .row eBs 9 (.slice Aw wo.length cw) wo, .cell b2 (quC 0 [] [] (.slice none 0 0) false 0 0 false) 24] := hM
  repeat (first | refine gs ?_ | (refine ks ?_; intro w hM))
  (try ((with_reducible apply is_gd); first | refine gt ?_ | refine gf ?_ | refine gu ?_)); refine wl_val (r_bldS (vs := [(0, .int .i64 (-1)), (6, .int .i64 (-1))]) (quC (-1) [] [] (.slice none 0 0) false 0 (-1) false) (z := quC 0 [] [] (.slice none 0 0) false 0 0 false) (place := (#[(0, 1), (1, 1), (2, 1), (3, 1), (4, 1), (5, 1), (6, 1), (7, 1)][·]?)) (by intro ps; kernel_rfl) rfl (.cons rfl rfl (by simp) (.cons rfl rfl (by simp [spl, Value.cells]) (.nil rfl)))) ?_
  refine kal hM (fun w b6 hM => ?_)
  refine kstw (vs := quC (-1) [] [] (.slice none 0 0) false 0 (-1) false) hM (fun w hM => ?_)
  have hM : Mem [] w0 w (.cell b6 (quC (-1) [] [] (.slice none 0 0) false 0 (-1) false) 24 :: .cell bR (rdC (.slice Aw wo.length cw) (0, false)) 39 :: .cell b5 [.pointer (some ⟨bR, 0, none⟩)] 35 :: .row eBs 9 (.slice Aw wo.length cw) wo :: .cell b2 (quC 0 [] [] (.slice none 0 0) false 0 0 false) 24 :: []) := hM.sub (by (repeat (first | exact Go.Proofs.E.Sub.refl _ | exact Go.Proofs.E.Sub.nil | (apply Go.Proofs.E.Sub.cons; (repeat (first | exact Go.Proofs.E.Pick.here | apply Go.Proofs.E.Pick.there))) | apply Go.Proofs.E.Sub.tail)))
  have hgR : w0.heap.size ≤ bR := hM.ge (b := bR) (by (repeat constructor))
  have hgs0 : 0 ∉ [bR] := fun h => by simp only [List.mem_singleton] at h; omega
  have hgs1 : 1 ∉ [bR] := fun h => by simp only [List.mem_singleton] at h; omega
  have hne : bR ≠ b6 := fun e => hM.nin (b := b6) (c := bR) (by (repeat constructor)) (by (repeat constructor)) (by simp [e])
  have hn5 : b5 ∉ [bR, b6] := fun h => by
    simp only [List.mem_cons, List.not_mem_nil, or_false] at h
    rcases h with rfl | rfl
    · exact hM.nin (b := b5) (c := b5) (by (repeat constructor)) (by (repeat constructor)) (by simp)
    · exact hM.nin (b := b5) (c := b5) (by (repeat constructor)) (by (repeat constructor)) (by simp)
  repeat (first | refine gs ?_ | (refine ks ?_; intro w hM))
  refine kbs (en := eBs) (vs := [.string (bst []), .string (bst wGet), .string (bst wCount)]) headsW hM (fun w bh hM => ?_)
  refine ca (one_any _ w) ?_
  rintro _ w3 ⟨b1, rfl, hN⟩
  have hM := hM.join hN (fun a ha => by simp only [List.mem_singleton] at ha; subst ha; trivial)
  clear hN
  repeat (first | refine gs ?_ | (refine ks ?_; intro w hM))
  have hW := hM.rowRd1 (en := eBs) (v := .slice Aw wo.length cw) (xs := wo) (b := bR) (by omega)
  have hH := hM.rowRd1 (en := eBs) (v := .slice (some ⟨bh, 0, none⟩) 3 3) (xs := headsW) (b := bR) (by decide)
  refine ca (nexti_any (oneB headsW) (fun n : Int => Value.int .i64 n) (fun x => .int .i64 (idxB headsW x)) 33 Tryd.f33 #[.pointer (some ⟨b1, 0, none⟩)] bR (.slice Aw wo.length cw) wo (0, false) _ (hM.blk (b := bR) (by (repeat constructor))) hW (Nat.zero_le _) (by omega)
    (fun x w1 _ hc => one1_any b1 (.slice (some ⟨bh, 0, none⟩) 3 3) 36 headsW x w1 ((hM.blk (b := b1) (by (repeat constructor))).ch hc (hM.nin (b := bR) (c := b1) (by (repeat constructor)) (by (repeat constructor)))) (hH.ch hc).off (by decide))
    (fun x a h => by unfold oneB at h; split at h; injection h with h; rw [h]; cases h)) ?_
  rintro _ w4 ⟨rfl, hc, hB4⟩
  have hM := hM.cellSet hB4 hc
  rw [show qAft (qGet wo (oneB headsW) (0, false)) (0, false) = st1 wo from rfl] at hM
  rw [show optV (fun n : Int => Value.int .i64 n) (.int .i64 0) (qGet wo (oneB headsW) (0, false)) = .int .i64 ((qGet wo (oneB headsW) (0, false)).getD 0) from optV_getD (vf := fun n : Int => Value.int .i64 n) (z := (0 : Int))]
  clear hW hH hc hB4
  repeat (first | refine gs ?_ | (refine ks ?_; intro w hM))
  rw [head_next] at hM
  obtain ⟨cnt, hcnt⟩ : ∃ c, decide (qGet wo (oneB headsW) (0, false) = some 2) = c := ⟨_, rfl⟩
  rw [hcnt] at hM
  have hz1 : (st1 wo).1 ≤ wo.length := aft_le (Nat.zero_le _)
  have hz2 : (st2 wo).1 ≤ wo.length := st_le hz1
  have hz3 : (st3 wo).1 ≤ wo.length := st_le hz2
  have hz4 : (st4 wo).1 ≤ wo.length := st_le hz3
  have hM : Mem [] w0 _ (.cell b6 (quC (-1) [] [] (.slice none 0 0) false 0 (-1) cnt) 24 :: .cell bR (rdC (.slice Aw wo.length cw) (st1 wo)) 39 :: .cell b5 [.pointer (some ⟨bR, 0, none⟩)] 35 :: .row eBs 9 (.slice Aw wo.length cw) wo :: .cell b2 (quC 0 [] [] (.slice none 0 0) false 0 0 false) 24 :: []) := hM.sub (by (repeat (first | exact Go.Proofs.E.Sub.refl _ | exact Go.Proofs.E.Sub.nil | (apply Go.Proofs.E.Sub.cons; (repeat (first | exact Go.Proofs.E.Pick.here | apply Go.Proofs.E.Pick.there))) | apply Go.Proofs.E.Sub.tail)))
  (try ((with_reducible apply is_gd); first | refine gt ?_ | refine gf ?_ | refine gu ?_)); refine wl_val (r_makeFunc (cs := [.tmp 5])) ?_
  repeat (first | refine gs ?_ | (refine ks ?_; intro w hM))
  (try ((with_reducible apply is_gd); first | refine gt ?_ | refine gf ?_ | refine gu ?_)); refine wl_val (r_makeFunc (cs := [.tmp 5, .tmp 6])) ?_
  refine kcd (f := 13) (vs := [.string (bst wAt), .func (.func 15) #[] #[.pointer (some ⟨b5, 0, none⟩), .pointer (some ⟨b6, 0, none⟩)]]) (lb := #[.pointer (some ⟨b5, 0, none⟩)]) (clAt_any b5 bR b6 0 [] [] none 0 0 false 0 (-1) cnt (.slice Aw wo.length cw) wo (st1 wo) _ 35 (hM.blk (b := b5) (by (repeat constructor))) (hM.blk (b := bR) (by (repeat constructor))) (hM.blk (b := b6) (by (repeat constructor))) hne hn5 (hM.rowRd1 (en := eBs) (v := .slice Aw wo.length cw) (xs := wo) (b := bR) (by omega)) (by omega) (by omega) hwx) ?_
  rintro _ wx ⟨hc, hB1, av, hav, hB2⟩
  have hM := hM.cellSet2 hB1 hB2 hc
  have hM : Mem [] w0 wx (.cell b6 (quC av [] [] (.slice none 0 0) false 0 (-1) cnt) 24 :: .cell bR (rdC (.slice Aw wo.length cw) (st2 wo)) 39 :: .cell b5 [.pointer (some ⟨bR, 0, none⟩)] 35 :: .row eBs 9 (.slice Aw wo.length cw) wo :: .cell b2 (quC 0 [] [] (.slice none 0 0) false 0 0 false) 24 :: []) := hM.sub (by (repeat (first | exact Go.Proofs.E.Sub.refl _ | exact Go.Proofs.E.Sub.nil | (apply Go.Proofs.E.Sub.cons; (repeat (first | exact Go.Proofs.E.Pick.here | apply Go.Proofs.E.Pick.there))) | apply Go.Proofs.E.Sub.tail)))
  clear hc hB1 hB2
  repeat (first | refine gs ?_ | (refine ks ?_; intro w hM))
  (try ((with_reducible apply is_gd); first | refine gt ?_ | refine gf ?_ | refine gu ?_)); refine wl_val (r_makeFunc (cs := [.tmp 5, .tmp 6])) ?_
  refine kcd (f := 13) (vs := [.string (bst wFrom), .func (.func 17) #[] #[.pointer (some ⟨b5, 0, none⟩), .pointer (some ⟨b6, 0, none⟩)]]) (lb := #[.pointer (some ⟨b5, 0, none⟩)]) (clFr_any b5 bR b6 av [] [] none 0 0 false 0 (-1) cnt (.slice Aw wo.length cw) wo (st2 wo) _ 35 (hM.blk (b := b5) (by (repeat constructor))) (hM.blk (b := bR) (by (repeat constructor))) (hM.blk (b := b6) (by (repeat constructor))) hne hn5 (hM.rowRd1 (en := eBs) (v := .slice Aw wo.length cw) (xs := wo) (b := bR) (by omega)) (by omega) (by omega) hwx) ?_
  rintro _ wx ⟨hc, hB1, fv, hfv, hB2⟩
  have hM := hM.cellSet2 hB1 hB2 hc
  have hM : Mem [] w0 wx (.cell b6 (quC av fv [] (.slice none 0 0) false 0 (-1) cnt) 24 :: .cell bR (rdC (.slice Aw wo.length cw) (st3 wo)) 39 :: .cell b5 [.pointer (some ⟨bR, 0, none⟩)] 35 :: .row eBs 9 (.slice Aw wo.length cw) wo :: .cell b2 (quC 0 [] [] (.slice none 0 0) false 0 0 false) 24 :: []) := hM.sub (by (repeat (first | exact Go.Proofs.E.Sub.refl _ | exact Go.Proofs.E.Sub.nil | (apply Go.Proofs.E.Sub.cons; (repeat (first | exact Go.Proofs.E.Pick.here | apply Go.Proofs.E.Pick.there))) | apply Go.Proofs.E.Sub.tail)))
  clear hc hB1 hB2
  repeat (first | refine gs ?_ | (refine ks ?_; intro w hM))
  (try ((with_reducible apply is_gd); first | refine gt ?_ | refine gf ?_ | refine gu ?_)); refine wl_val (r_makeFunc (cs := [.tmp 5, .tmp 6])) ?_
  refine kcd (f := 13) (vs := [.string (bst wTo), .func (.func 20) #[] #[.pointer (some ⟨b5, 0, none⟩), .pointer (some ⟨b6, 0, none⟩)]]) (lb := #[.pointer (some ⟨b5, 0, none⟩)]) (clTo_any b5 bR b6 av fv [] none 0 0 false 0 (-1) cnt (.slice Aw wo.length cw) wo (st3 wo) _ 35 (hM.blk (b := b5) (by (repeat constructor))) (hM.blk (b := bR) (by (repeat constructor))) (hM.blk (b := b6) (by (repeat constructor))) hne hn5 (hM.rowRd1 (en := eBs) (v := .slice Aw wo.length cw) (xs := wo) (b := bR) (by omega)) (by omega) (by omega) hwx) ?_
  rintro _ wx ⟨hc, hB1, tv, htv, hB2⟩
  have hM := hM.cellSet2 hB1 hB2 hc
  have hM : Mem [] w0 wx (.cell b6 (quC av fv tv (.slice none 0 0) false 0 (-1) cnt) 24 :: .cell bR (rdC (.slice Aw wo.length cw) (st4 wo)) 39 :: .cell b5 [.pointer (some ⟨bR, 0, none⟩)] 35 :: .row eBs 9 (.slice Aw wo.length cw) wo :: .cell b2 (quC 0 [] [] (.slice none 0 0) false 0 0 false) 24 :: []) := hM.sub (by (repeat (first | exact Go.Proofs.E.Sub.refl _ | exact Go.Proofs.E.Sub.nil | (apply Go.Proofs.E.Sub.cons; (repeat (first | exact Go.Proofs.E.Pick.here | apply Go.Proofs.E.Pick.there))) | apply Go.Proofs.E.Sub.tail)))
  clear hc hB1 hB2
  repeat (first | refine gs ?_ | (refine ks ?_; intro w hM))
  obtain ⟨TS, s5, hTS⟩ : ∃ TS s5, qTests wo 52 wWhere [] (st4 wo) = (TS, s5) := ⟨_, _, rfl⟩
  have h5e : st5 wo = s5 := by unfold st5; rw [hTS]
  have hM : Mem [] w0 _ (.cell bR (rdC (.slice Aw wo.length cw) (st4 wo)) 39 :: .cell b6 (quC av fv tv (.slice none 0 0) false 0 (-1) cnt) 24 :: .cell b5 [.pointer (some ⟨bR, 0, none⟩)] 35 :: .row eBs 9 (.slice Aw wo.length cw) wo :: .cell b2 (quC 0 [] [] (.slice none 0 0) false 0 0 false) 24 :: []) := hM.sub (by (repeat (first | exact Go.Proofs.E.Sub.refl _ | exact Go.Proofs.E.Sub.nil | (apply Go.Proofs.E.Sub.cons; (repeat (first | exact Go.Proofs.E.Pick.here | apply Go.Proofs.E.Pick.there))) | apply Go.Proofs.E.Sub.tail)))
  refine ca (qtests_any bR (.slice Aw wo.length cw) wo (st4 wo) _ (hL.ch hM.ch (by simp) (by simp)) hgs0 hgs1 (hM.blk (b := bR) (by (repeat constructor))) (hM.rowRd1 (en := eBs) (v := .slice Aw wo.length cw) (xs := wo) (b := bR) (by omega)) (by omega) (by omega) hwx TS s5 hTS) ?_
  rintro vt wx ⟨tl, htl, htl2, hK⟩
  have hM := hM.joinO hK (fun a ha => by simp only [List.mem_singleton] at ha; subst ha; trivial)
  clear hK
  obtain ⟨At, ct, rfl, _⟩ := Own.form (hM.row (v := vt) (by (repeat constructor)))
  have hz5 : s5.1 ≤ wo.length := by
    have := tests_le (wo := wo) (n := 52) (j := wWhere) (l := []) hz4
    rw [hTS] at this
    exact this
  repeat (first | refine gs ?_ | (refine ks ?_; intro w hM))
  have hM : Mem [] w0 _ (.cell b6 (quC av fv tv (.slice At tl.length ct) false 0 (-1) cnt) 24 :: .cell bR (rdC (.slice Aw wo.length cw) s5) 39 :: .cell b5 [.pointer (some ⟨bR, 0, none⟩)] 35 :: .row eBs 9 (.slice Aw wo.length cw) wo :: .cell b2 (quC 0 [] [] (.slice none 0 0) false 0 0 false) 24 :: .row eTs 34 (.slice At tl.length ct) tl :: []) := hM.sub (by (repeat (first | exact Go.Proofs.E.Sub.refl _ | exact Go.Proofs.E.Sub.nil | (apply Go.Proofs.E.Sub.cons; (repeat (first | exact Go.Proofs.E.Pick.here | apply Go.Proofs.E.Pick.there))) | apply Go.Proofs.E.Sub.tail)))
  have h6e : st6 wo = seeS wo wBack s5 := by
    unfold st6 seeS
    rw [h5e]
    cases hq : qSees wo wBack s5 with
    | false => rfl
    | true => rw [if_pos rfl, if_pos rfl, (see_t (α := Int) hq).1]
  obtain ⟨bk, hbk⟩ : ∃ b, qSees wo wBack s5 = b := ⟨_, rfl⟩
  have hz6 : (st6 wo).1 ≤ wo.length := by
    rw [h6e]
    cases hq : qSees wo wBack s5 with
    | false => rw [(see_f (α := Int) hq).1]; exact hz5
    | true => rw [(see_t (α := Int) hq).2.2.1]; exact (see_t (α := Int) hq).2.1
  have hz7 : (st7 wo).1 ≤ wo.length := st_le hz6
  have hz8 : (st8 wo).1 ≤ wo.length := st_le hz7
  (try ((with_reducible apply is_gd); first | refine gt ?_ | refine gf ?_ | refine gu ?_)); refine wl_val (r_makeFunc (cs := [.tmp 6])) ?_
  obtain ⟨wz, hwz⟩ : ∃ wz, wz = wx := ⟨_, rfl⟩
  have hB6 := hM.blk (b := b6) (by (repeat constructor))
  have h6n : b6 ∉ [bR] := fun h => hne (by simp at h; exact h.symm)
  have hn5a : b5 ∉ [bR] := fun h => hn5 (by simp at h; simp [h])
  refine kcd (f := 13) (vs := [.string (bst wBack), .func (.func 22) #[] #[.pointer (some ⟨b6, 0, none⟩)]]) (lb := #[.pointer (some ⟨b5, 0, none⟩)]) (clause_any (Post := fun w' => Ch [bR, b6] _ w' ∧ Blk w' bR (rdC (.slice Aw wo.length cw) (st6 wo)) 39 ∧ Blk w' b6 (quC av fv tv (.slice At tl.length ct) bk 0 (-1) cnt) 24) b5 bR wBack (.slice Aw wo.length cw) wo s5 22 Tryd.f22 #[.pointer (some ⟨b6, 0, none⟩)] _ 35 (hM.blk (b := b5) (by (repeat constructor))) (hM.blk (b := bR) (by (repeat constructor))) hn5a (hM.rowRd1 (en := eBs) (v := .slice Aw wo.length cw) (xs := wo) (b := bR) (by omega)) (by omega) (by omega)
    (fun hq w1 hc hB1 => (seeB_any bR b6 av fv tv At tl.length ct 0 (-1) cnt w1 (hB6.ch hc h6n)).mono fun e w2 ⟨u, he, h1, h2⟩ => ⟨u, he, hc.trans h1 (fun x _ h => by simp at h; simp [h]) (fun x _ h => by simp at h; simp [h]), by rw [h6e, (see_t (α := Int) hq).2.2.1]; exact hB1.ch h1 (fun h => hne (by simpa using h)), by rw [← hbk, hq]; exact h2⟩)
    (fun hq w1 hc hB1 => ⟨hc.mono (fun x _ h => by simp at h; simp [h]), by rw [h6e, (see_f (α := Int) hq).1]; exact hB1, by rw [← hbk, hq]; exact hB6.ch hc h6n⟩)) ?_
  rintro _ wy ⟨hc, hB1, hB2⟩
  have hM := hM.cellSet2 hB1 hB2 hc
  have hM : Mem [] w0 wy (.cell b6 (quC av fv tv (.slice At tl.length ct) bk 0 (-1) cnt) 24 :: .cell bR (rdC (.slice Aw wo.length cw) (st6 wo)) 39 :: .cell b5 [.pointer (some ⟨bR, 0, none⟩)] 35 :: .row eBs 9 (.slice Aw wo.length cw) wo :: .cell b2 (quC 0 [] [] (.slice none 0 0) false 0 0 false) 24 :: .row eTs 34 (.slice At tl.length ct) tl :: []) := hM.sub (by (repeat (first | exact Go.Proofs.E.Sub.refl _ | exact Go.Proofs.E.Sub.nil | (apply Go.Proofs.E.Sub.cons; (repeat (first | exact Go.Proofs.E.Pick.here | apply Go.Proofs.E.Pick.there))) | apply Go.Proofs.E.Sub.tail)))
  clear hc hB1 hB2 hB6 hwz
  repeat (first | refine gs ?_ | (refine ks ?_; intro w hM))
  (try ((with_reducible apply is_gd); first | refine gt ?_ | refine gf ?_ | refine gu ?_)); refine wl_val (r_makeFunc (cs := [.tmp 5, .tmp 6])) ?_
  refine kcd (f := 13) (vs := [.string (bst wSkip), .func (.func 23) #[] #[.pointer (some ⟨b5, 0, none⟩), .pointer (some ⟨b6, 0, none⟩)]]) (lb := #[.pointer (some ⟨b5, 0, none⟩)]) (clSk_any b5 bR b6 av fv tv At tl.length ct bk 0 (-1) cnt (.slice Aw wo.length cw) wo (st6 wo) _ 35 (hM.blk (b := b5) (by (repeat constructor))) (hM.blk (b := bR) (by (repeat constructor))) (hM.blk (b := b6) (by (repeat constructor))) hne hn5 (hM.rowRd1 (en := eBs) (v := .slice Aw wo.length cw) (xs := wo) (b := bR) (by omega)) (by omega) (by omega) hwx) ?_
  rintro _ wx ⟨hc, hB1, kv, hkv, hB2⟩
  have hM := hM.cellSet2 hB1 hB2 hc
  have hM : Mem [] w0 wx (.cell b6 (quC av fv tv (.slice At tl.length ct) bk kv (-1) cnt) 24 :: .cell bR (rdC (.slice Aw wo.length cw) (st7 wo)) 39 :: .cell b5 [.pointer (some ⟨bR, 0, none⟩)] 35 :: .row eBs 9 (.slice Aw wo.length cw) wo :: .cell b2 (quC 0 [] [] (.slice none 0 0) false 0 0 false) 24 :: .row eTs 34 (.slice At tl.length ct) tl :: []) := hM.sub (by (repeat (first | exact Go.Proofs.E.Sub.refl _ | exact Go.Proofs.E.Sub.nil | (apply Go.Proofs.E.Sub.cons; (repeat (first | exact Go.Proofs.E.Pick.here | apply Go.Proofs.E.Pick.there))) | apply Go.Proofs.E.Sub.tail)))
  clear hc hB1 hB2
  repeat (first | refine gs ?_ | (refine ks ?_; intro w hM))
  (try ((with_reducible apply is_gd); first | refine gt ?_ | refine gf ?_ | refine gu ?_)); refine wl_val (r_makeFunc (cs := [.tmp 5, .tmp 6])) ?_
  refine kcd (f := 13) (vs := [.string (bst wLimit), .func (.func 24) #[] #[.pointer (some ⟨b5, 0, none⟩), .pointer (some ⟨b6, 0, none⟩)]]) (lb := #[.pointer (some ⟨b5, 0, none⟩)]) (clLm_any b5 bR b6 av fv tv At tl.length ct bk kv (-1) cnt (.slice Aw wo.length cw) wo (st7 wo) _ 35 (hM.blk (b := b5) (by (repeat constructor))) (hM.blk (b := bR) (by (repeat constructor))) (hM.blk (b := b6) (by (repeat constructor))) hne hn5 (hM.rowRd1 (en := eBs) (v := .slice Aw wo.length cw) (xs := wo) (b := bR) (by omega)) (by omega) (by omega) hwx) ?_
  rintro _ wx ⟨hc, hB1, lv, hlv, hB2⟩
  have hM := hM.cellSet2 hB1 hB2 hc
  have hM : Mem [] w0 wx (.cell b6 (quC av fv tv (.slice At tl.length ct) bk kv lv cnt) 24 :: .cell bR (rdC (.slice Aw wo.length cw) (st8 wo)) 39 :: .cell b5 [.pointer (some ⟨bR, 0, none⟩)] 35 :: .row eBs 9 (.slice Aw wo.length cw) wo :: .cell b2 (quC 0 [] [] (.slice none 0 0) false 0 0 false) 24 :: .row eTs 34 (.slice At tl.length ct) tl :: []) := hM.sub (by (repeat (first | exact Go.Proofs.E.Sub.refl _ | exact Go.Proofs.E.Sub.nil | (apply Go.Proofs.E.Sub.cons; (repeat (first | exact Go.Proofs.E.Pick.here | apply Go.Proofs.E.Pick.there))) | apply Go.Proofs.E.Sub.tail)))
  clear hc hB1 hB2
  repeat (first | refine gs ?_ | (refine ks ?_; intro w hM))
  refine kdr hM (by kernel_rfl) (by kernel_rfl) (fun w hM => ?_)
  repeat (first | ((with_reducible apply is_ldg); first | refine kldg hM ?_ | refine kldwg hM ?_) | ((with_reducible apply is_sg); (first | refine ssg ?_ | refine sgu ?_)) | ((with_reducible apply is_gg); first | refine gtg ?_ | refine gfg ?_ | refine gug ?_) | ((with_reducible apply is_eg); refine eg ?_))
  cases hb8 : (st8 wo).2 with
  | true =>
    repeat (first | ((with_reducible apply is_ldg); first | refine kldg hM ?_ | refine kldwg hM ?_) | ((with_reducible apply is_sg); (first | refine ssg ?_ | refine sgu ?_)) | ((with_reducible apply is_gg); first | refine gtg ?_ | refine gfg ?_ | refine gug ?_) | ((with_reducible apply is_eg); refine eg ?_))
    (intro w hc; have hM := hM.call hc)
    repeat (first | refine gs ?_ | (refine ks ?_; intro w hM))
    refine c_condb rfl (fun _ => ?_) (fun h => by cases h)
    repeat (first | refine gs ?_ | (refine ks ?_; intro w hM))
    refine c_ordY ([], []) [b2] (by kernel_rfl) (by kernel_rfl) (by kernel_rfl) (fun w hc hs => ?_)
    have hM := hM.call hc
    have hl5 := Blk.lt (hM.blk (b := b5) (by (repeat constructor)))
    have hlR := Blk.lt (hM.blk (b := bR) (by (repeat constructor)))
    have hn5 := hM.nin (b := b2) (c := b5) (by (repeat constructor)) (by (repeat constructor))
    have hnR := hM.nin (b := b2) (c := bR) (by (repeat constructor)) (by (repeat constructor))
    refine ynp 0 rfl (by kernel_rfl) (by kernel_rfl) (fun _ => r_bldS (vs := []) (quC 0 [] [] (.slice none 0 0) false 0 0 false) (z := quC 0 [] [] (.slice none 0 0) false 0 0 false) (place := (#[(0, 1), (1, 1), (2, 1), (3, 1), (4, 1), (5, 1), (6, 1), (7, 1)][·]?)) (by intro ps; kernel_rfl) rfl (.nil rfl)) rfl ?_
    refine ynl 1 rfl (hM.blk (b := b5) (by (repeat constructor))) (by omega) hn5 rfl rfl ?_
    (first | refine yn 2 rfl ?_ | refine ynt 2 rfl ?_ | refine ynff 2 rfl ?_); (first | refine yn 3 rfl ?_ | refine ynt 3 rfl ?_ | refine ynff 3 rfl ?_)
    refine ynl 4 rfl (hM.blk (b := bR) (by (repeat constructor))) (by omega) hnR rfl rfl ?_
    (first | refine yn 5 rfl ?_ | refine ynt 5 rfl ?_ | refine ynff 5 rfl ?_)
    refine yk1 6 hM (by kernel_rfl) rfl (fun w h0 hM => ?_)
    refine kstH (b := b2) (vs := quC 0 [] [] (.slice none 0 0) false 0 0 false) hM (fun w hc hM => ?_) rfl rfl (h1 := by simp [Value.oneCell'])
    refine x_wy (.inl (hc.bwn h0 (.inr (by simp)))) rfl ?_
    (first | refine yn 7 rfl ?_ | refine ynt 7 rfl ?_ | refine ynff 7 rfl ?_); (first | refine yn 8 rfl ?_ | refine ynt 8 rfl ?_ | refine ynff 8 rfl ?_)
    refine wy_done (by kernel_rfl) (fun w hc => ?_)
    have hM := hM.call hc
    repeat (first | refine gs ?_ | (refine ks ?_; intro w hM))
    rw [if_pos (by first | exact .inl hb8 | exact .inr hlt)] at hpq
    refine koc12 hM rfl ⟨.slice none 0 0, ?_, ?_⟩
    · rw [hpq]; rfl
    · rw [hpq]
      exact hM.nil.nilRow _ _
  | false =>
  repeat (first | ((with_reducible apply is_ldg); first | refine kldg hM ?_ | refine kldwg hM ?_) | ((with_reducible apply is_sg); (first | refine ssg ?_ | refine sgu ?_)) | ((with_reducible apply is_gg); first | refine gtg ?_ | refine gfg ?_ | refine gug ?_) | ((with_reducible apply is_eg); refine eg ?_))
  by_cases hlt : (st8 wo).1 < wo.length
  · rw [decide_eq_true (by omega : ((st8 wo).1 : Int) < (wo.length : Int))]
    repeat (first | ((with_reducible apply is_ldg); first | refine kldg hM ?_ | refine kldwg hM ?_) | ((with_reducible apply is_sg); (first | refine ssg ?_ | refine sgu ?_)) | ((with_reducible apply is_gg); first | refine gtg ?_ | refine gfg ?_ | refine gug ?_) | ((with_reducible apply is_eg); refine eg ?_))
    (intro w hc; have hM := hM.call hc)
    repeat (first | refine gs ?_ | (refine ks ?_; intro w hM))
    refine c_condb rfl (fun _ => ?_) (fun h => by cases h)
    repeat (first | refine gs ?_ | (refine ks ?_; intro w hM))
    refine c_ordY ([], []) [b2] (by kernel_rfl) (by kernel_rfl) (by kernel_rfl) (fun w hc hs => ?_)
    have hM := hM.call hc
    have hl5 := Blk.lt (hM.blk (b := b5) (by (repeat constructor)))
    have hlR := Blk.lt (hM.blk (b := bR) (by (repeat constructor)))
    have hn5 := hM.nin (b := b2) (c := b5) (by (repeat constructor)) (by (repeat constructor))
    have hnR := hM.nin (b := b2) (c := bR) (by (repeat constructor)) (by (repeat constructor))
    refine ynp 0 rfl (by kernel_rfl) (by kernel_rfl) (fun _ => r_bldS (vs := []) (quC 0 [] [] (.slice none 0 0) false 0 0 false) (z := quC 0 [] [] (.slice none 0 0) false 0 0 false) (place := (#[(0, 1), (1, 1), (2, 1), (3, 1), (4, 1), (5, 1), (6, 1), (7, 1)][·]?)) (by intro ps; kernel_rfl) rfl (.nil rfl)) rfl ?_
    refine ynl 1 rfl (hM.blk (b := b5) (by (repeat constructor))) (by omega) hn5 rfl rfl ?_
    (first | refine yn 2 rfl ?_ | refine ynt 2 rfl ?_ | refine ynff 2 rfl ?_); (first | refine yn 3 rfl ?_ | refine ynt 3 rfl ?_ | refine ynff 3 rfl ?_)
    refine ynl 4 rfl (hM.blk (b := bR) (by (repeat constructor))) (by omega) hnR rfl rfl ?_
    (first | refine yn 5 rfl ?_ | refine ynt 5 rfl ?_ | refine ynff 5 rfl ?_)
    refine yk1 6 hM (by kernel_rfl) rfl (fun w h0 hM => ?_)
    refine kstH (b := b2) (vs := quC 0 [] [] (.slice none 0 0) false 0 0 false) hM (fun w hc hM => ?_) rfl rfl (h1 := by simp [Value.oneCell'])
    refine x_wy (.inl (hc.bwn h0 (.inr (by simp)))) rfl ?_
    (first | refine yn 7 rfl ?_ | refine ynt 7 rfl ?_ | refine ynff 7 rfl ?_); (first | refine yn 8 rfl ?_ | refine ynt 8 rfl ?_ | refine ynff 8 rfl ?_)
    refine wy_done (by kernel_rfl) (fun w hc => ?_)
    have hM := hM.call hc
    repeat (first | refine gs ?_ | (refine ks ?_; intro w hM))
    rw [if_pos (by first | exact .inl hb8 | exact .inr hlt)] at hpq
    refine koc12 hM rfl ⟨.slice none 0 0, ?_, ?_⟩
    · rw [hpq]; rfl
    · rw [hpq]
      exact hM.nil.nilRow _ _
  rw [decide_eq_false (by omega : ¬ ((st8 wo).1 : Int) < (wo.length : Int))]
  repeat (first | ((with_reducible apply is_ldg); first | refine kldg hM ?_ | refine kldwg hM ?_) | ((with_reducible apply is_sg); (first | refine ssg ?_ | refine sgu ?_)) | ((with_reducible apply is_gg); first | refine gtg ?_ | refine gfg ?_ | refine gug ?_) | ((with_reducible apply is_eg); refine eg ?_))
  (intro w hc; have hM := hM.call hc)
  repeat (first | refine gs ?_ | (refine ks ?_; intro w hM))
  refine c_condb rfl (fun h => by cases h) (fun _ => ?_)
  repeat (first | refine gs ?_ | (refine ks ?_; intro w hM))
  rw [if_neg (by rw [hb8]; simp; omega)] at hpq
  obtain ⟨⟨x1, y1⟩, ⟨x2, y2⟩, ⟨x3, y3⟩, y4, ⟨x5, y5⟩, ⟨x6, y6⟩⟩ := all_vals hb8
  have hq : qAll wo = ⟨av, fv, tv, tl, bk, kv, lv, cnt⟩ := by
    unfold qAll
    rw [h5e] at y4
    rw [y1, y2, y3, y5, y6, hTS, h5e, hbk, hcnt, hav x1 y1, hfv x2 y2, htv x3 y3, hkv x5 y5, hlv x6 y6, htl2 y4]
    rfl
  refine koc12 hM rfl ⟨.slice At tl.length ct, ?_, ?_⟩
  · rw [hpq, hq]; rfl
  · rw [hpq, hq]
    exact hM.sub (by (repeat (first | exact Go.Proofs.E.Sub.refl _ | exact Go.Proofs.E.Sub.nil | (apply Go.Proofs.E.Sub.cons; (repeat (first | exact Go.Proofs.E.Pick.here | apply Go.Proofs.E.Pick.there))) | apply Go.Proofs.E.Sub.tail)))
end Go.Proofs.YtoimhmphhffelaaDoor
set_option linter.unusedVariables false
set_option linter.unusedSimpArgs false
namespace Go.Proofs.YtoimhmphhffelaaDoor
open Go Go.RowKit Go.Proofs.E
attribute [local irreducible] Go.wpList Go.Code.wp Go.Proofs.E.exec Go.Proofs.E.wpLexG
theorem hexs_at {n : Nat} (h : n < 16) : hexsB[n]? = some (hexd n) := by
  have : ∀ n : Fin 16, hexsB[n.1]? = some (hexd n.1) := by decide
  exact this ⟨n, h⟩
theorem r_shr4 {P : Program} {l : List Value} {w : World} {T : TypeId} {x y : Operand} {t u : TypeId} {q : IntKind} {c : UInt8} (hx : ev l x = u8v c) (hy : ev l y = .int q 4) :
    (exec (ev l) (.binOp .shr t x y u) T).run P w = .ok (.value (.int .u8 ((c.toNat / 16 : Nat) : Int))) w := by
  refine (r_shr (k := .u8) (a := (c.toNat : Int)) hx hy (by omega)).trans ?_
  have : ((c.toNat : Int)).fdiv (2 ^ min (4 : Int).toNat IntKind.u8.bits) = ((c.toNat / 16 : Nat) : Int) := by
    show ((c.toNat : Int)).fdiv 16 = _
    rw [Int.fdiv_eq_ediv_of_nonneg _ (by omega)]
    omega
  rw [this]
theorem r_and15 {P : Program} {l : List Value} {w : World} {T : TypeId} {x y : Operand} {t u : TypeId} {c : UInt8} (hx : ev l x = u8v c) (hy : ev l y = .int .u8 15) :
    (exec (ev l) (.binOp .and t x y u) T).run P w = .ok (.value (.int .u8 ((c.toNat % 16 : Nat) : Int))) w := by
  refine (r_and (k := .u8) (a := (c.toNat : Int)) hx hy).trans ?_
  have : ∀ n : Fin 256, IntKind.u8.wrap (BitVec.ofInt IntKind.u8.bits (n.1 : Int) &&& BitVec.ofInt IntKind.u8.bits 15).toNat = ((n.1 % 16 : Nat) : Int) := by decide +kernel
  have h := this ⟨c.toNat, UInt8.toNat_lt c⟩
  rw [h]
theorem flat_next {s : List UInt8} {i : Nat} {c : UInt8} (h : s[i]? = some c) : (s.take (i + 1)).flatMap quoC = (s.take i).flatMap quoC ++ quoC c := by
  rw [List.take_add_one, h]
  simp
theorem quoC_le (c : UInt8) : (quoC c).length ≤ 3 := by
  unfold quoC
  split <;> simp
theorem quoF_le : ∀ s : List UInt8, (s.flatMap quoC).length ≤ 3 * s.length
  | [] => by simp
  | c :: s => by
    rw [List.flatMap_cons, List.length_append, List.length_cons]
    have := quoC_le c
    have := quoF_le s
    omega
set_option maxHeartbeats 16000000 in
theorem quote_any (s : List UInt8) (w0 : World) (hs : s.length ≤ 100000) :
    Calls Tryd.prog 28 #[.string (bst s)] w0 (Ret fun u w' => u = .string (bst (quoB s)) ∧ Ch [] w0 w') := by
  have hM := Mem.start w0
  refine enter [.string (bst s), undef, undef, undef, undef, undef, undef, undef, undef, undef, undef, undef, undef, undef, undef, undef, undef, undef, undef, undef, undef, undef, undef, undef, undef, undef, undef, undef, undef, undef, undef, undef, undef, undef, undef] Tryd.func28 rfl rfl ?_
  repeat (first | refine gs ?_ | (refine ks ?_; intro w hM))
  refine kbs (en := eU8) (vs := [u8v 39]) [39] hM (fun w b1 hM => ?_) (hm := by intro v q; simp only [List.mem_singleton] at q; subst q; rfl)
  repeat (first | refine gs ?_ | (refine ks ?_; intro w hM))
  
  refine c_loop (fun n l w => ∃ (i : Nat) (v3 : Value), (∃ jj : Nat → Value, l = [.string (bst s), jj 1, jj 2, v3, jj 4, jj 5, jj 6, .string (bst s), .int .i64 (s.length : Int), .int .i64 (i : Int), jj 10, jj 11, jj 12, jj 13, jj 14, jj 15, jj 16, jj 17, jj 18, jj 19, jj 20, jj 21, jj 22, jj 23, jj 24, jj 25, jj 26, jj 27, jj 28, jj 29, jj 30, jj 31, jj 32, jj 33, jj 34]) ∧ n + i = s.length ∧ Mem [] w0 w [.row eU8 5 v3 (39 :: (s.take i).flatMap quoC)]) s.length
    ⟨0, _, exj rfl, rfl, hM⟩ ?_
  clear hM
  rintro n l w ⟨i, v3, ⟨jj, rfl⟩, hn, hM⟩
  have hle := quoF_le (s.take i)
  have hle2 : (s.take i).length ≤ s.length := by simp; omega
  repeat (first | refine gs ?_ | (refine ks ?_; intro w hM))
  refine c_cond rfl (fun hi => ?_) (fun hi => ?_)
  rotate_left
  · rw [List.take_of_length_le (by omega)] at hM hle
    repeat (first | refine gs ?_ | (refine ks ?_; intro w hM))
    refine kbs (en := eU8) (vs := [u8v 39]) [39] hM (fun w b1 hM => ?_) (hm := by intro v q; simp only [List.mem_singleton] at q; subst q; rfl)
    repeat (first | refine gs ?_ | (refine ks ?_; intro w hM))
    have hR1 := hM.rowRdO (en := eU8) (v := .slice (some ⟨b1, 0, none⟩) 1 1) (xs := [39]) (by (repeat constructor))
    refine kap (en := eU8) (v := v3) (xs := 39 :: s.flatMap quoC) (ys := [39]) hM hR1 (fun v7 w hM => ?_) (hb := by simp only [List.length_cons, List.length_nil]; omega) (h63 := by simp only [List.length_cons, List.length_nil]; omega)
    have hR := hM.rowRdO (en := eU8) (xs := 39 :: s.flatMap quoC ++ [39]) (v := v7) (by (repeat constructor))
    obtain ⟨A4, c4, rfl⟩ := hR.form
    repeat (first | refine gs ?_ | (refine ks ?_; intro w hM))
    (try ((with_reducible apply is_gd); first | refine gt ?_ | refine gf ?_ | refine gu ?_)); refine wl_val (r_b2s hR) ?_
    repeat (first | refine gs ?_ | (refine ks ?_; intro w hM))
    exact out1 rfl ⟨rfl, hM.ch⟩
  obtain ⟨c, hc⟩ : ∃ c, s[i]? = some c := ⟨_, List.getElem?_eq_getElem (by omega)⟩
  have hnx := flat_next hc
  repeat (first | refine gs ?_ | (refine ks ?_; intro w hM))
  refine kcs (itself_any c w) ?_
  cases ha : selfB c with
  | true =>
    have hq : quoC c = [c] := by unfold quoC; rw [if_pos ha]
    rw [hq] at hnx
    repeat (first | refine gs ?_ | (refine ks ?_; intro w hM))
    refine c_condb rfl (fun _ => ?_) (fun h => by cases h)
    repeat (first | refine gs ?_ | (refine ks ?_; intro w hM))
    refine kpu c hM (fun u v' w hM => ?_) (hb := by simp only [List.length_cons]; omega) (h63 := by simp only [List.length_cons]; omega)
    repeat (first | refine gs ?_ | (refine ks ?_; intro w hM))
    exact x_goes (n - 1) rfl (by omega) ⟨i + 1, v', exj rfl, by omega, by rw [hnx]; exact hM.sub (by (repeat (first | exact Go.Proofs.E.Sub.refl _ | exact Go.Proofs.E.Sub.nil | (apply Go.Proofs.E.Sub.cons; (repeat (first | exact Go.Proofs.E.Pick.here | apply Go.Proofs.E.Pick.there))) | apply Go.Proofs.E.Sub.tail)))⟩
  | false =>
    have hq : quoC c = [37, hexd (c.toNat / 16), hexd (c.toNat % 16)] := by unfold quoC; rw [if_neg (by rw [ha]; simp)]
    rw [hq] at hnx
    have hcl := UInt8.toNat_lt c
    have hx1 := hexs_at (n := c.toNat / 16) (by omega)
    have hx2 := hexs_at (n := c.toNat % 16) (by omega)
    repeat (first | refine gs ?_ | (refine ks ?_; intro w hM))
    refine c_condb rfl (fun h => by cases h) (fun _ => ?_)
    repeat (first | refine gsb ?_ | (refine ks ?_; intro w hM))
    refine c_ordY ([8], []) [] (by kernel_rfl) (by kernel_rfl) (by kernel_rfl) (fun w hc hs => ?_)
    have hM := hM.call hc
    (first | refine yn 0 rfl ?_ | refine ynt 0 rfl ?_ | refine ynff 0 rfl ?_); (first | refine yn 1 rfl ?_ | refine ynt 1 rfl ?_ | refine ynff 1 rfl ?_)
    refine ynp 2 rfl (by kernel_rfl) (by kernel_rfl) (fun _ => r_shr4 (c := c) rfl rfl) rfl ?_
    refine ynp 3 rfl (by kernel_rfl) (by kernel_rfl) (fun _ => r_idxS (s := hexsB) rfl rfl (by omega) (by rw [Int.toNat_natCast]; exact hx1)) rfl ?_
    (first | refine yn 4 rfl ?_ | refine ynt 4 rfl ?_ | refine ynff 4 rfl ?_)
    refine ynp 5 rfl (by kernel_rfl) (by kernel_rfl) (fun _ => r_and15 (c := c) rfl rfl) rfl ?_
    refine ynp 6 rfl (by kernel_rfl) (by kernel_rfl) (fun _ => r_idxS (s := hexsB) rfl rfl (by omega) (by rw [Int.toNat_natCast]; exact hx2)) rfl ?_
    refine yk1 7 hM (by kernel_rfl) rfl (fun w h0 hM => ?_)
    refine kbsC (en := eU8) (vs := [u8v 37, u8v (hexd (c.toNat / 16)), u8v (hexd (c.toNat % 16))]) [37, hexd (c.toNat / 16), hexd (c.toNat % 16)] hM (fun w b hc hM => ?_) (hm := by intro v q; simp only [List.mem_cons, List.not_mem_nil, or_false] at q; rcases q with rfl | rfl | rfl <;> rfl)
    refine x_wy (.inl (hc.gy h0)) rfl ?_
    refine yk1 8 hM (by kernel_rfl) rfl (fun w h0 hM => ?_)
    have hR1 := hM.rowRdO (en := eU8) (v := .slice (some ⟨b, 0, none⟩) 3 3) (xs := [37, hexd (c.toNat / 16), hexd (c.toNat % 16)]) (by (repeat constructor))
    refine kapC (en := eU8) (v := v3) (xs := 39 :: (s.take i).flatMap quoC) (ys := [37, hexd (c.toNat / 16), hexd (c.toNat % 16)]) hM hR1 (fun v7 w hs hM => ?_) (hb := by simp only [List.length_cons, List.length_nil]; omega) (h63 := by simp only [List.length_cons, List.length_nil]; omega)
    refine x_wy (.inr ⟨by decide, Nat.le_trans h0 hs⟩) rfl ?_
    (first | refine yn 9 rfl ?_ | refine ynt 9 rfl ?_ | refine ynff 9 rfl ?_)
    refine wy_done (by kernel_rfl) (fun w hc => ?_)
    have hM := hM.call hc
    repeat (first | refine gs ?_ | (refine ks ?_; intro w hM))
    exact x_goes (n - 1) rfl (by omega) ⟨i + 1, v7, exj rfl, by omega, by rw [hnx]; exact hM.sub (by (repeat (first | exact Go.Proofs.E.Sub.refl _ | exact Go.Proofs.E.Sub.nil | (apply Go.Proofs.E.Sub.cons; (repeat (first | exact Go.Proofs.E.Pick.here | apply Go.Proofs.E.Pick.there))) | apply Go.Proofs.E.Sub.tail)))⟩
end Go.Proofs.YtoimhmphhffelaaDoor
set_option linter.unusedVariables false
set_option linter.unusedSimpArgs false
namespace Go.Proofs.YtoimhmphhffelaaDoor
open Go Go.RowKit Go.Proofs.E
attribute [local irreducible] Go.wpList Go.Code.wp Go.Proofs.E.exec Go.Proofs.E.wpLexG
/-! ### Numbers by the library -/
abbrev powG : Nat := 5
def LaidP (w : World) : Prop := LaidG powG (Lib.pow10Tab.map fun z => Value.int .u64 z) w
theorem powNamed : Tryd.prog.globalNamed "internal/strconv.uint64pow10" = some powG := by kernel_rfl
theorem LaidP.tab {w : World} (h : LaidP w) : Lib.TabIs Tryd.prog w "internal/strconv.uint64pow10" .u64 Lib.pow10Tab := by
  obtain ⟨t, fz, h⟩ := h
  unfold Lib.TabIs World.var?
  rw [powNamed]
  show (match w.heap[powG]? with | some (.cells cs _ _) => some cs | _ => none) = _
  rw [h]
theorem itoa_any (n : Int) (h0 : -9223372036854775808 ≤ n) (h1 : n ≤ 9223372036854775807) (w : World) (hP : LaidP w) : Calls Tryd.prog 27 #[.int .i64 n] w (Ret fun u w' => u = .string (bst (Lib.itoa n)) ∧ Ch [] w w') := by
  refine (Tryd.strconv_Itoa n h0 h1 w hP.tab).mono fun e w' ⟨he, k, os, hw⟩ => ⟨_, he, rfl, ?_⟩
  subst hw
  exact Ch.of_below (Lib.below_grow w.heap.size w (Nat.le_refl _) k os)
/-! ### Tests -/
abbrev qV (q : QryV) (vt : Value) : List Value := quC q.at_ q.fr q.to_ vt q.back q.skip q.lim q.cnt
theorem rightT_of {t : TsV} : rightT t = true ↔ (1 ≤ t.1 ∧ t.1 ≤ 2 ∧ 1 ≤ t.2.1 ∧ t.2.1 ≤ 8 ∧ t.2.2.length ≤ 256) := by unfold rightT; exact decide_eq_true_iff
theorem rightT_no {t : TsV} (h : ¬ (1 ≤ t.1 ∧ t.1 ≤ 2 ∧ 1 ≤ t.2.1 ∧ t.2.1 ≤ 8 ∧ t.2.2.length ≤ 256)) : rightT t = false := by unfold rightT; exact decide_eq_false h
set_option maxHeartbeats 8000000 in
theorem goodTest_any (t : TsV) (w0 : World) (hl : t.2.2.length ≤ 9223372036854775807) : Calls Tryd.prog 39 #[.agg (tsC t).toArray] w0 (Ret fun u w' => u = .bool (rightT t) ∧ Ch [] w0 w') := by
  obtain ⟨a, b, s⟩ := t
  have hM := Mem.start w0
  simp only at hl
  refine enter [.agg (tsC (a, b, s)).toArray, undef, undef, undef, undef, undef, undef, undef, undef, undef, undef, undef, undef, undef, undef, undef, undef, undef, undef, undef, undef, undef, undef, undef, undef, undef, undef] Tryd.func39 rfl rfl ?_
  repeat (first | refine gs ?_ | (refine ks ?_; intro w hM))
  refine kbx hM (fun w b1 hM => ?_)
  have hM : Mem [] w0 w [.cell b1 (tsC (a, b, s)) 34] := hM
  repeat (first | refine gs ?_ | (refine ks ?_; intro w hM))
  by_cases h0 : 1 ≤ a
  rotate_left
  · rw [decide_eq_false h0]
    repeat (first | refine gs ?_ | (refine ks ?_; intro w hM))
    exact out1 rfl ⟨by rw [rightT_no (by simp only; omega)]; rfl, hM.ch⟩
  rw [decide_eq_true h0]
  repeat (first | refine gs ?_ | (refine ks ?_; intro w hM))
  by_cases h1 : a ≤ 2
  rotate_left
  · rw [decide_eq_false h1]
    repeat (first | refine gs ?_ | (refine ks ?_; intro w hM))
    exact out1 rfl ⟨by rw [rightT_no (by simp only; omega)]; rfl, hM.ch⟩
  rw [decide_eq_true h1]
  repeat (first | refine gs ?_ | (refine ks ?_; intro w hM))
  by_cases h2 : 1 ≤ b
  rotate_left
  · rw [decide_eq_false h2]
    repeat (first | refine gs ?_ | (refine ks ?_; intro w hM))
    exact out1 rfl ⟨by rw [rightT_no (by simp only; omega)]; rfl, hM.ch⟩
  rw [decide_eq_true h2]
  repeat (first | refine gs ?_ | (refine ks ?_; intro w hM))
  by_cases h3 : b ≤ 8
  rotate_left
  · rw [decide_eq_false h3]
    repeat (first | refine gs ?_ | (refine ks ?_; intro w hM))
    exact out1 rfl ⟨by rw [rightT_no (by simp only; omega)]; rfl, hM.ch⟩
  rw [decide_eq_true h3]
  repeat (first | refine gs ?_ | (refine ks ?_; intro w hM))
  refine out1 rfl ⟨?_, hM.ch⟩
  by_cases h5 : s.length ≤ 256
  · rw [rightT_of.2 (by simp only; omega)]
    show Value.bool (decide ((s.length : Int) ≤ 256)) = _
    rw [decide_eq_true (by omega)]
  · rw [rightT_no (by simp only; omega)]
    show Value.bool (decide ((s.length : Int) ≤ 256)) = _
    rw [decide_eq_false (by omega)]
theorem right1_any (t : TsV) (w0 : World) (hl : t.2.2.length ≤ 9223372036854775807) : Calls Tryd.prog 38 #[.agg (tsC t).toArray] w0 (Ret fun u w' => u = .bool (!rightT t) ∧ Ch [] w0 w') := by
  have hM := Mem.start w0
  refine enter [.agg (tsC t).toArray, undef, undef, undef, undef, undef] Tryd.func38 rfl rfl ?_
  repeat (first | refine gs ?_ | (refine ks ?_; intro w hM))
  refine kbx hM (fun w b1 hM => ?_)
  have hM : Mem [] w0 w [.cell b1 (tsC t) 34] := hM
  repeat (first | refine gs ?_ | (refine ks ?_; intro w hM))
  refine kca hM (goodTest_any t w hl) (fun w hM => ?_)
  repeat (first | refine gs ?_ | (refine ks ?_; intro w hM))
  exact out1 rfl ⟨rfl, hM.ch⟩
abbrev fvR1 : Value := .func (.func 38) #[] #[]
theorem all_next {α : Type} {p : α → Bool} {xs : List α} {i : Nat} {a : α} (h : xs[i]? = some a) (h0 : (xs.take i).all p = true) : (xs.take (i + 1)).all p = p a := by
  rw [List.take_add_one, h, List.all_append, h0]
  simp
theorem all_bad {α : Type} {p : α → Bool} {xs : List α} {i : Nat} {a : α} (h : xs[i]? = some a) (h0 : p a = false) : xs.all p = false := by
  rw [List.all_eq_false]
  exact ⟨a, List.mem_of_getElem? h, by rw [h0]; simp⟩
set_option maxHeartbeats 8000000 in
theorem index1_any (v : Value) (ts : List TsV) (w0 : World) (hR : (Ty.enc eTs).Rd [] w0 v ts) (hl : ∀ t ∈ ts, t.2.2.length ≤ 9223372036854775807) : Calls Tryd.prog 51 #[v, fvR1] w0 (Ret fun u w' => (∃ r : Int, u = .int .i64 r ∧ decide (0 ≤ r) = !(ts.all rightT)) ∧ Ch [] w0 w') := by
  have hM := Mem.start w0
  have hlen := hR.1
  obtain ⟨A, c, rfl⟩ := hR.form
  refine enter [.slice A ts.length c, fvR1, undef, undef, undef, undef, undef, undef, undef, undef, undef, undef, undef, undef, undef, undef, undef, undef, undef] Tryd.func51 rfl rfl ?_
  repeat (first | refine gs ?_ | (refine ks ?_; intro w hM))
  
  refine c_loop (fun n l w => ∃ (i : Nat), (∃ jj : Nat → Value, l = [.slice A ts.length c, fvR1, jj 2, jj 3, jj 4, jj 5, jj 6, .int .i64 (ts.length : Int), .int .i64 (i : Int), jj 9, jj 10, jj 11, jj 12, jj 13, jj 14, jj 15, jj 16, jj 17, jj 18]) ∧ n + i = ts.length ∧ (ts.take i).all rightT = true ∧ Mem [] w0 w []) ts.length
    ⟨0, exj rfl, rfl, rfl, hM⟩ ?_
  clear hM
  rintro n l w ⟨i, ⟨jj, rfl⟩, hn, hall, hM⟩
  repeat (first | refine gs ?_ | (refine ks ?_; intro w hM))
  refine c_cond rfl (fun hi => ?_) (fun hi => ?_)
  rotate_left
  · rw [List.take_of_length_le (by omega)] at hall
    repeat (first | refine gs ?_ | (refine ks ?_; intro w hM))
    exact out1 rfl ⟨⟨-1, rfl, by rw [hall]; rfl⟩, hM.ch⟩
  repeat (first | refine gs ?_ | (refine ks ?_; intro w hM))
  refine kix hR (fun b o t ht hA => ?_) (h1 := by omega)
  rw [Int.toNat_natCast] at ht
  repeat (first | refine gs ?_ | (refine ks ?_; intro w hM))
  refine katr hM hA ?_
  repeat (first | refine gs ?_ | (refine ks ?_; intro w hM))
  have hcl : Calls Tryd.prog 38 (([.agg (tsC t).toArray] : List Value).toArray ++ #[]) w (Ret fun u w' => u = .bool (!rightT t) ∧ Ch [] w w') := by
    rw [Array.append_empty]
    exact right1_any t w (hl t (List.mem_of_getElem? ht))
  refine kcd hcl (fun u w2 h => ?_)
  obtain ⟨rfl, hc⟩ := h
  have hM := hM.call hc
  cases hr : rightT t with
  | false =>
    repeat (first | refine gs ?_ | (refine ks ?_; intro w hM))
    refine c_condb rfl (fun _ => ?_) (fun h => by cases h)
    repeat (first | refine gs ?_ | (refine ks ?_; intro w hM))
    exact out1 rfl ⟨⟨(i : Int), rfl, by rw [all_bad ht hr]; exact decide_eq_true (by omega)⟩, hM.ch⟩
  | true =>
    repeat (first | refine gs ?_ | (refine ks ?_; intro w hM))
    refine c_condb rfl (fun h => by cases h) (fun _ => ?_)
    repeat (first | refine gs ?_ | (refine ks ?_; intro w hM))
    exact x_goes (n - 1) rfl (by omega) ⟨i + 1, exj rfl, by omega, by rw [all_next ht hall, hr], hM⟩
theorem contains1_any (v : Value) (ts : List TsV) (w0 : World) (hR : (Ty.enc eTs).Rd [] w0 v ts) (hl : ∀ t ∈ ts, t.2.2.length ≤ 9223372036854775807) : Calls Tryd.prog 37 #[v, fvR1] w0 (Ret fun u w' => u = .bool (!(ts.all rightT)) ∧ Ch [] w0 w') := by
  have hM := Mem.start w0
  obtain ⟨A, c, hv⟩ := hR.form
  subst hv
  refine enter [.slice A ts.length c, fvR1, undef, undef, undef, undef, undef, undef, undef] Tryd.func37 rfl rfl ?_
  repeat (first | refine gs ?_ | (refine ks ?_; intro w hM))
  refine ca (index1_any _ ts w0 hR hl) ?_
  rintro _ w2 ⟨⟨r, rfl, hr⟩, hc⟩
  have hM := hM.call hc
  repeat (first | refine gs ?_ | (refine ks ?_; intro w hM))
  rw [hr]
  exact out1 rfl ⟨rfl, hM.ch⟩
/-! ### Queries -/
def okQ (q : QryV) : Prop := -1 ≤ q.at_ ∧ q.at_ ≤ 999999999 ∧ 0 ≤ q.skip ∧ q.skip ≤ 999999999 ∧ -1 ≤ q.lim ∧ q.lim ≤ 999999999 ∧ q.fr.length ≤ 256 ∧ q.to_.length ≤ 256 ∧ q.ts.length ≤ 50
theorem rightQ_no {q : QryV} (h : ¬ okQ q) : rightQ q = false := by unfold rightQ; rw [decide_eq_false (by unfold okQ at h; exact h)]; rfl
theorem rightQ_ok {q : QryV} (h : okQ q) : rightQ q = q.ts.all rightT := by unfold rightQ; rw [decide_eq_true (by unfold okQ at h; exact h)]; rfl
/-- Lengths that can be. -/
def LenQ (q : QryV) : Prop := q.fr.length ≤ 100000 ∧ q.to_.length ≤ 100000 ∧ ∀ t ∈ q.ts, t.2.2.length ≤ 100000
set_option maxHeartbeats 16000000 in
theorem right_any (q : QryV) (vt : Value) (w0 : World) (hR : (Ty.enc eTs).Rd [] w0 vt q.ts) (hq : LenQ q) : Calls Tryd.prog 25 #[.agg (qV q vt).toArray] w0 (Ret fun u w' => u = .bool (rightQ q) ∧ Ch [] w0 w') := by
  have hM := Mem.start w0
  have hlen := hR.1
  obtain ⟨q1, q2, q3⟩ := hq
  obtain ⟨A, c, rfl⟩ := hR.form
  refine enter [.agg (qV q (.slice A q.ts.length c)).toArray, undef, undef, undef, undef, undef, undef, undef, undef, undef, undef, undef, undef, undef, undef, undef, undef, undef, undef, undef, undef, undef, undef, undef, undef, undef, undef, undef, undef, undef, undef, undef, undef, undef, undef, undef, undef, undef, undef, undef, undef, undef, undef, undef, undef, undef, undef, undef, undef, undef, undef] Tryd.func25 rfl rfl ?_
  repeat (first | refine gs ?_ | (refine ks ?_; intro w hM))
  refine kbx hM (fun w b1 hM => ?_)
  have hM : Mem [] w0 w [.cell b1 (qV q (.slice A q.ts.length c)) 24] := hM
  repeat (first | refine gs ?_ | (refine ks ?_; intro w hM))
  by_cases h0 : q.at_ < -1
  · rw [decide_eq_true h0]
    repeat (first | refine gs ?_ | (refine ks ?_; intro w hM))
    refine c_condb rfl (fun _ => ?_) (fun h => by cases h)
    repeat (first | refine gs ?_ | (refine ks ?_; intro w hM))
    exact out1 rfl ⟨by rw [rightQ_no (fun h => by unfold okQ at h; omega)]; rfl, hM.ch⟩
  rw [decide_eq_false h0]
  repeat (first | refine gs ?_ | (refine ks ?_; intro w hM))
  by_cases h1 : 999999999 < q.at_
  · rw [decide_eq_true h1]
    repeat (first | refine gs ?_ | (refine ks ?_; intro w hM))
    refine c_condb rfl (fun _ => ?_) (fun h => by cases h)
    repeat (first | refine gs ?_ | (refine ks ?_; intro w hM))
    exact out1 rfl ⟨by rw [rightQ_no (fun h => by unfold okQ at h; omega)]; rfl, hM.ch⟩
  rw [decide_eq_false h1]
  repeat (first | refine gs ?_ | (refine ks ?_; intro w hM))
  by_cases h2 : q.skip < 0
  · rw [decide_eq_true h2]
    repeat (first | refine gs ?_ | (refine ks ?_; intro w hM))
    refine c_condb rfl (fun _ => ?_) (fun h => by cases h)
    repeat (first | refine gs ?_ | (refine ks ?_; intro w hM))
    exact out1 rfl ⟨by rw [rightQ_no (fun h => by unfold okQ at h; omega)]; rfl, hM.ch⟩
  rw [decide_eq_false h2]
  repeat (first | refine gs ?_ | (refine ks ?_; intro w hM))
  by_cases h3 : 999999999 < q.skip
  · rw [decide_eq_true h3]
    repeat (first | refine gs ?_ | (refine ks ?_; intro w hM))
    refine c_condb rfl (fun _ => ?_) (fun h => by cases h)
    repeat (first | refine gs ?_ | (refine ks ?_; intro w hM))
    exact out1 rfl ⟨by rw [rightQ_no (fun h => by unfold okQ at h; omega)]; rfl, hM.ch⟩
  rw [decide_eq_false h3]
  repeat (first | refine gs ?_ | (refine ks ?_; intro w hM))
  by_cases h4 : q.lim < -1
  · rw [decide_eq_true h4]
    repeat (first | refine gs ?_ | (refine ks ?_; intro w hM))
    refine c_condb rfl (fun _ => ?_) (fun h => by cases h)
    repeat (first | refine gs ?_ | (refine ks ?_; intro w hM))
    exact out1 rfl ⟨by rw [rightQ_no (fun h => by unfold okQ at h; omega)]; rfl, hM.ch⟩
  rw [decide_eq_false h4]
  repeat (first | refine gs ?_ | (refine ks ?_; intro w hM))
  by_cases h5 : 999999999 < q.lim
  · rw [decide_eq_true h5]
    repeat (first | refine gs ?_ | (refine ks ?_; intro w hM))
    refine c_condb rfl (fun _ => ?_) (fun h => by cases h)
    repeat (first | refine gs ?_ | (refine ks ?_; intro w hM))
    exact out1 rfl ⟨by rw [rightQ_no (fun h => by unfold okQ at h; omega)]; rfl, hM.ch⟩
  rw [decide_eq_false h5]
  repeat (first | refine gs ?_ | (refine ks ?_; intro w hM))
  refine c_condb rfl (fun h => by cases h) (fun _ => ?_)
  repeat (first | refine gs ?_ | (refine ks ?_; intro w hM))
  by_cases h6 : (256 : Int) < (q.fr.length : Int)
  · rw [decide_eq_true h6]
    repeat (first | refine gs ?_ | (refine ks ?_; intro w hM))
    refine c_condb rfl (fun _ => ?_) (fun h => by cases h)
    repeat (first | refine gs ?_ | (refine ks ?_; intro w hM))
    exact out1 rfl ⟨by rw [rightQ_no (fun h => by unfold okQ at h; omega)]; rfl, hM.ch⟩
  rw [decide_eq_false h6]
  repeat (first | refine gs ?_ | (refine ks ?_; intro w hM))
  by_cases h7 : (256 : Int) < (q.to_.length : Int)
  · rw [decide_eq_true h7]
    repeat (first | refine gs ?_ | (refine ks ?_; intro w hM))
    refine c_condb rfl (fun _ => ?_) (fun h => by cases h)
    repeat (first | refine gs ?_ | (refine ks ?_; intro w hM))
    exact out1 rfl ⟨by rw [rightQ_no (fun h => by unfold okQ at h; omega)]; rfl, hM.ch⟩
  rw [decide_eq_false h7]
  repeat (first | refine gs ?_ | (refine ks ?_; intro w hM))
  by_cases h8 : (50 : Int) < (q.ts.length : Int)
  · rw [decide_eq_true h8]
    repeat (first | refine gs ?_ | (refine ks ?_; intro w hM))
    refine c_condb rfl (fun _ => ?_) (fun h => by cases h)
    repeat (first | refine gs ?_ | (refine ks ?_; intro w hM))
    exact out1 rfl ⟨by rw [rightQ_no (fun h => by unfold okQ at h; omega)]; rfl, hM.ch⟩
  rw [decide_eq_false h8]
  repeat (first | refine gs ?_ | (refine ks ?_; intro w hM))
  refine c_condb rfl (fun h => by cases h) (fun _ => ?_)
  repeat (first | refine gs ?_ | (refine ks ?_; intro w hM))
  refine kca hM (contains1_any _ q.ts w (hR.ch hM.ch) (fun t ht => by have := q3 t ht; omega)) (fun w hM => ?_)
  repeat (first | refine gs ?_ | (refine ks ?_; intro w hM))
  rw [rightQ_ok (by unfold okQ; omega)]
  exact out1 rfl ⟨congrArg Value.bool (Bool.not_not _), hM.ch⟩
end Go.Proofs.YtoimhmphhffelaaDoor
set_option linter.unusedVariables false
set_option linter.unusedSimpArgs false
namespace Go.Proofs.E
open Go Go.RowKit
theorem r_eqbd {P : Program} {l : List Value} {w : World} {T : TypeId} {x y : Operand} {t u : TypeId} {a b : Bool} [hU : Und P t .bool] (hx : ev l x = .bool a) (hy : ev l y = .bool b) : (exec (ev l) (.binOp .eql t x y u) T).run P w = .ok (.value (.bool (decide (a = b)))) w := by
  rw [r_eqbb hx hy]
  cases a <;> cases b <;> rfl
theorem tk_iff {α : Type} {xs ys : List α} (hl : xs.length = ys.length) {j : Nat} (hj : xs.length ≤ j) (h : xs.take j = ys.take j) : xs = ys := by
  rwa [List.take_of_length_le hj, List.take_of_length_le (hl ▸ hj)] at h
theorem tk_step {α : Type} {xs ys : List α} {j : Nat} {x y : α} (hx : xs[j]? = some x) (hy : ys[j]? = some y) (h : xs.take j = ys.take j) (he : x = y) : xs.take (j + 1) = ys.take (j + 1) := by
  rw [List.take_add_one, List.take_add_one, hx, hy, h, he]
end Go.Proofs.E
namespace Go.Proofs.YtoimhmphhffelaaDoor
open Go Go.RowKit Go.Proofs.E
attribute [local irreducible] Go.wpList Go.Code.wp Go.Proofs.E.exec Go.Proofs.E.wpLexG
theorem ts_cmp (x y : TsV) : CmpFs Tryd.prog 9999 (eTs.f x) (eTs.f y) (Tryd.prog.fieldsOf 34).toList (decide (x = y)) := by
  obtain ⟨a, b, c⟩ := x
  obtain ⟨d, e, f⟩ := y
  have h : decide ((a, b, c) = (d, e, f)) = ((a == d) && ((b == e) && ((bst c == bst f) && true))) := by
    rw [bst_beq, Bool.and_true, Bool.eq_iff_iff]
    simp
  rw [h]
  simp only [Program.fieldsOf, Tryd.underlying34]
  exact .cons (by decide) (cmp_int (t := 3)) rfl rfl (.cons (by decide) (cmp_int (t := 3)) rfl rfl (.cons (by decide) (cmp_str (t := 9)) rfl rfl .nil))
def SameQ (p q : QryV) : Prop := p.at_ = q.at_ ∧ p.fr = q.fr ∧ p.to_ = q.to_ ∧ p.back = q.back ∧ p.skip = q.skip ∧ p.lim = q.lim ∧ p.cnt = q.cnt ∧ p.ts = q.ts
instance (p q : QryV) : Decidable (SameQ p q) := by unfold SameQ; infer_instance
def sameQ (p q : QryV) : Bool := decide (SameQ p q)
theorem sameQ_no {p q : QryV} (h : ¬ SameQ p q) : sameQ p q = false := decide_eq_false h
theorem sameQ_yes {p q : QryV} (h : SameQ p q) : sameQ p q = true := decide_eq_true h
theorem sameQ_iff {p q : QryV} : sameQ p q = true ↔ p = q := by
  unfold sameQ
  rw [decide_eq_true_eq]
  cases p
  cases q
  unfold SameQ
  simp only [QryV.mk.injEq]
  constructor
  · rintro ⟨h1, h2, h3, h4, h5, h6, h7, h8⟩
    exact ⟨h1, h2, h3, h8, h4, h5, h6, h7⟩
  · rintro ⟨h1, h2, h3, h8, h4, h5, h6, h7⟩
    exact ⟨h1, h2, h3, h4, h5, h6, h7, h8⟩
theorem sameQ_self (q : QryV) : sameQ q q = true := sameQ_iff.2 rfl
set_option maxHeartbeats 8000000 in
theorem equalT_any (va vb : Value) (xs ys : List TsV) (w0 : World) (hX : (Ty.enc eTs).Rd [] w0 va xs) (hY : (Ty.enc eTs).Rd [] w0 vb ys) :
    Calls Tryd.prog 30 #[va, vb] w0 (Ret fun u w' => u = .bool (decide (xs = ys)) ∧ Ch [] w0 w') := by
  have hM := Mem.start w0
  obtain ⟨A, c, rfl⟩ := hX.form
  obtain ⟨A2, c2, rfl⟩ := hY.form
  have hl1 := hX.1
  have hl2 := hY.1
  refine enter [.slice A xs.length c, .slice A2 ys.length c2, undef, undef, undef, undef, undef, undef, undef, undef, undef, undef, undef, undef, undef, undef, undef, undef, undef, undef, undef, undef, undef, undef, undef, undef] Tryd.func30 rfl rfl ?_
  repeat (first | refine gs ?_ | (refine ks ?_; intro w hM))
  refine c_cond rfl (fun q1 => ?_) (fun q1 => ?_)
  · repeat (first | refine gs ?_ | (refine ks ?_; intro w hM))
    refine out1 rfl ⟨congrArg Value.bool (decide_eq_false (fun h => q1 (by rw [h]))).symm, hM.ch⟩
  have hl : xs.length = ys.length := by omega
  repeat (first | refine gs ?_ | (refine ks ?_; intro w hM))
  
  refine c_loop (fun n l w => ∃ (j : Nat), (∃ jj : Nat → Value, l = [.slice A xs.length c, .slice A2 ys.length c2, jj 2, jj 3, .bool false, jj 5, jj 6, jj 7, jj 8, jj 9, jj 10, jj 11, .int .i64 (xs.length : Int), .int .i64 (j : Int), jj 14, jj 15, jj 16, jj 17, jj 18, jj 19, jj 20, jj 21, jj 22, jj 23, jj 24, jj 25]) ∧ n + j = xs.length ∧ Mem [] w0 w [] ∧ xs.take j = ys.take j) xs.length
    ⟨0, exj rfl, rfl, hM, rfl⟩ ?_
  clear hM
  rintro n l w ⟨j, ⟨jj, rfl⟩, hnj, hM, hf⟩
  repeat (first | refine gs ?_ | (refine ks ?_; intro w hM))
  refine c_cond rfl (fun hj => ?_) (fun hj => ?_)
  · repeat (first | refine gs ?_ | (refine ks ?_; intro w hM))
    refine kdr hM (by kernel_rfl) (by kernel_rfl) (fun w hM => ?_)
    repeat (first | ((with_reducible apply is_ldg); first | refine kldg hM ?_ | refine kldwg hM ?_) | ((with_reducible apply is_sg); (first | refine ssg ?_ | refine sgu ?_)) | ((with_reducible apply is_gg); first | refine gtg ?_ | refine gfg ?_ | refine gug ?_) | ((with_reducible apply is_eg); refine eg ?_))
    refine kixg hX (fun o1 o2 x hx hA => ?_)
    refine katrg hM hA ?_
    repeat (first | ((with_reducible apply is_ldg); first | refine kldg hM ?_ | refine kldwg hM ?_) | ((with_reducible apply is_sg); (first | refine ssg ?_ | refine sgu ?_)) | ((with_reducible apply is_gg); first | refine gtg ?_ | refine gfg ?_ | refine gug ?_) | ((with_reducible apply is_eg); refine eg ?_))
    refine kixg hY (fun o3 o4 y hy hA' => ?_)
    refine katrg hM hA' ?_
    rw [Int.toNat_natCast] at hx hy
    (try ((with_reducible apply is_gg); first | refine gtg ?_ | refine gfg ?_ | refine gug ?_)); refine wg_val (fun _ _ => r_neqS (by kernel_rfl) (by kernel_rfl) (by kernel_rfl) rfl rfl (ts_cmp x y)) ?_
    repeat (first | ((with_reducible apply is_ldg); first | refine kldg hM ?_ | refine kldwg hM ?_) | ((with_reducible apply is_sg); (first | refine ssg ?_ | refine sgu ?_)) | ((with_reducible apply is_gg); first | refine gtg ?_ | refine gfg ?_ | refine gug ?_) | ((with_reducible apply is_eg); refine eg ?_))
    (intro w hc; have hM := hM.call hc)
    repeat (first | refine gs ?_ | (refine ks ?_; intro w hM))
    by_cases hxy : x = y
    · rw [decide_eq_true hxy]
      refine c_condb rfl (fun h => by cases h) (fun _ => ?_)
      repeat (first | refine gs ?_ | (refine ks ?_; intro w hM))
      exact x_goes (n - 1) rfl (by omega) ⟨j + 1, exj rfl, by omega, hM.sub (by (repeat constructor)), tk_step hx hy hf hxy⟩
    · rw [decide_eq_false hxy]
      refine c_condb rfl (fun _ => ?_) (fun h => by cases h)
      repeat (first | refine gs ?_ | (refine ks ?_; intro w hM))
      exact out1 rfl ⟨congrArg Value.bool (decide_eq_false (fun h => hxy (by rw [h, hy] at hx; injection hx with hx; exact hx.symm))).symm, hM.ch⟩
  · repeat (first | refine gs ?_ | (refine ks ?_; intro w hM))
    exact out1 rfl ⟨congrArg Value.bool (decide_eq_true (tk_iff hl (by omega) hf)).symm, hM.ch⟩
set_option maxHeartbeats 16000000 in
theorem same34_any (p q : QryV) (va vb : Value) (w0 : World) (hX : (Ty.enc eTs).Rd [] w0 va p.ts) (hY : (Ty.enc eTs).Rd [] w0 vb q.ts) : Calls Tryd.prog 8 #[.agg (qV p va).toArray, .agg (qV q vb).toArray] w0 (Ret fun u w' => u = .bool (sameQ p q) ∧ Ch [] w0 w') := by
  have hM := Mem.start w0
  obtain ⟨A, c, rfl⟩ := hX.form
  obtain ⟨A2, c2, rfl⟩ := hY.form
  have hl1 := hX.1
  have hl2 := hY.1
  refine enter [.agg (qV p (.slice A p.ts.length c)).toArray, .agg (qV q (.slice A2 q.ts.length c2)).toArray, undef, undef, undef, undef, undef, undef, undef, undef, undef, undef, undef, undef, undef, undef, undef, undef, undef, undef, undef, undef, undef, undef, undef, undef, undef, undef, undef, undef, undef, undef, undef, undef, undef, undef, undef, undef, undef, undef, undef, undef, undef, undef, undef, undef, undef, undef, undef, undef, undef, undef, undef, undef, undef, undef, undef, undef, undef, undef, undef, undef, undef, undef, undef] Tryd.func8 rfl rfl ?_
  repeat (first | refine gs ?_ | (refine ks ?_; intro w hM))
  refine kbx hM (fun w b1 hM => ?_)
  have hM : Mem [] w0 w [.cell b1 (qV p (.slice A p.ts.length c)) 24] := hM
  refine kbx hM (fun w b2 hM => ?_)
  have hM : Mem [] w0 w [.cell b2 (qV q (.slice A2 q.ts.length c2)) 24, .cell b1 (qV p (.slice A p.ts.length c)) 24] := hM
  repeat (first | refine gs ?_ | (refine ks ?_; intro w hM))
  refine kdr hM (by kernel_rfl) (by kernel_rfl) (fun w hM => ?_)
  repeat (first | ((with_reducible apply is_ldg); first | refine kldg hM ?_ | refine kldwg hM ?_) | ((with_reducible apply is_sg); (first | refine ssg ?_ | refine sgu ?_)) | ((with_reducible apply is_gg); first | refine gtg ?_ | refine gfg ?_ | refine gug ?_) | ((with_reducible apply is_eg); refine eg ?_))
  (intro w hc; have hM := hM.call hc)
  repeat (first | refine gs ?_ | (refine ks ?_; intro w hM))
  by_cases h0 : p.at_ = q.at_
  rotate_left
  · rw [decide_eq_false h0]
    repeat (first | refine gs ?_ | (refine ks ?_; intro w hM))
    exact out1 rfl ⟨by rw [sameQ_no (fun h => h0 (by unfold SameQ at h; obtain ⟨g0, g1, g2, g3, g4, g5, g6, g7⟩ := h; assumption))]; rfl, hM.ch⟩
  rw [decide_eq_true h0]
  repeat (first | refine gs ?_ | (refine ks ?_; intro w hM))
  by_cases h1 : p.fr = q.fr
  rotate_left
  · rw [decide_eq_false h1]
    repeat (first | refine gs ?_ | (refine ks ?_; intro w hM))
    exact out1 rfl ⟨by rw [sameQ_no (fun h => h1 (by unfold SameQ at h; obtain ⟨g0, g1, g2, g3, g4, g5, g6, g7⟩ := h; assumption))]; rfl, hM.ch⟩
  rw [decide_eq_true h1]
  repeat (first | refine gs ?_ | (refine ks ?_; intro w hM))
  by_cases h2 : p.to_ = q.to_
  rotate_left
  · rw [decide_eq_false h2]
    repeat (first | refine gs ?_ | (refine ks ?_; intro w hM))
    exact out1 rfl ⟨by rw [sameQ_no (fun h => h2 (by unfold SameQ at h; obtain ⟨g0, g1, g2, g3, g4, g5, g6, g7⟩ := h; assumption))]; rfl, hM.ch⟩
  rw [decide_eq_true h2]
  repeat (first | refine gs ?_ | (refine ks ?_; intro w hM))
  (try ((with_reducible apply is_gd); first | refine gt ?_ | refine gf ?_ | refine gu ?_)); refine wl_val (r_eqbd (a := p.back) (b := q.back) rfl rfl) ?_
  repeat (first | refine gs ?_ | (refine ks ?_; intro w hM))
  by_cases h3 : p.back = q.back
  rotate_left
  · rw [decide_eq_false h3]
    repeat (first | refine gs ?_ | (refine ks ?_; intro w hM))
    exact out1 rfl ⟨by rw [sameQ_no (fun h => h3 (by unfold SameQ at h; obtain ⟨g0, g1, g2, g3, g4, g5, g6, g7⟩ := h; assumption))]; rfl, hM.ch⟩
  rw [decide_eq_true h3]
  repeat (first | refine gs ?_ | (refine ks ?_; intro w hM))
  by_cases h4 : p.skip = q.skip
  rotate_left
  · rw [decide_eq_false h4]
    repeat (first | refine gs ?_ | (refine ks ?_; intro w hM))
    exact out1 rfl ⟨by rw [sameQ_no (fun h => h4 (by unfold SameQ at h; obtain ⟨g0, g1, g2, g3, g4, g5, g6, g7⟩ := h; assumption))]; rfl, hM.ch⟩
  rw [decide_eq_true h4]
  repeat (first | refine gs ?_ | (refine ks ?_; intro w hM))
  by_cases h5 : p.lim = q.lim
  rotate_left
  · rw [decide_eq_false h5]
    repeat (first | refine gs ?_ | (refine ks ?_; intro w hM))
    exact out1 rfl ⟨by rw [sameQ_no (fun h => h5 (by unfold SameQ at h; obtain ⟨g0, g1, g2, g3, g4, g5, g6, g7⟩ := h; assumption))]; rfl, hM.ch⟩
  rw [decide_eq_true h5]
  repeat (first | refine gs ?_ | (refine ks ?_; intro w hM))
  (try ((with_reducible apply is_gd); first | refine gt ?_ | refine gf ?_ | refine gu ?_)); refine wl_val (r_eqbd (a := p.cnt) (b := q.cnt) rfl rfl) ?_
  repeat (first | refine gs ?_ | (refine ks ?_; intro w hM))
  by_cases h6 : p.cnt = q.cnt
  rotate_left
  · rw [decide_eq_false h6]
    repeat (first | refine gs ?_ | (refine ks ?_; intro w hM))
    exact out1 rfl ⟨by rw [sameQ_no (fun h => h6 (by unfold SameQ at h; obtain ⟨g0, g1, g2, g3, g4, g5, g6, g7⟩ := h; assumption))]; rfl, hM.ch⟩
  rw [decide_eq_true h6]
  repeat (first | refine gs ?_ | (refine ks ?_; intro w hM))
  refine kca hM (equalT_any _ _ p.ts q.ts w (hX.ch hM.ch) (hY.ch hM.ch)) (fun w hM => ?_)
  repeat (first | refine gs ?_ | (refine ks ?_; intro w hM))
  refine out1 rfl ⟨congrArg Value.bool ?_, hM.ch⟩
  by_cases h7 : p.ts = q.ts
  · rw [decide_eq_true h7, sameQ_yes ⟨h0, h1, h2, h3, h4, h5, h6, h7⟩]
  · rw [decide_eq_false h7, sameQ_no (fun h => by unfold SameQ at h; exact h7 h.2.2.2.2.2.2.2)]
/-! ### Turned into the document's -/
end Go.Proofs.YtoimhmphhffelaaDoor
set_option linter.unusedVariables false
set_option linter.unusedSimpArgs false
namespace Go.Proofs.YtoimhmphhffelaaDoor
open Go Go.RowKit Go.Proofs.E
attribute [local irreducible] Go.wpList Go.Code.wp Go.Proofs.E.exec Go.Proofs.E.wpLexG
/-! ### What is printed, piece by piece -/
abbrev jT (l : List (List UInt8)) : List UInt8 := Lib.joinTail [32] l
theorem jT_app (a b : List (List UInt8)) : jT (a ++ b) = jT a ++ jT b := by unfold jT Lib.joinTail; simp
theorem jT_one (a : List UInt8) : jT [a] = [32] ++ a := by unfold jT Lib.joinTail; simp
theorem jT_two (a b : List UInt8) : jT [a, b] = [32] ++ a ++ [32] ++ b := by unfold jT Lib.joinTail; simp
theorem jT_len2 (a b : List UInt8) : (jT [a, b]).length = a.length + b.length + 2 := by rw [jT_two]; simp; omega
theorem jT_len1 (a : List UInt8) : (jT [a]).length = a.length + 1 := by rw [jT_one]; simp
abbrev pAt (q : QryV) : List (List UInt8) := if 0 ≤ q.at_ then [wAt, Lib.itoa q.at_] else []
abbrev pFr (q : QryV) : List (List UInt8) := if q.fr ≠ [] then [wFrom, quoB q.fr] else []
abbrev pTo (q : QryV) : List (List UInt8) := if q.to_ ≠ [] then [wTo, quoB q.to_] else []
abbrev pBk (q : QryV) : List (List UInt8) := if q.back = true then [wBack] else []
abbrev pSk (q : QryV) : List (List UInt8) := if 0 < q.skip then [wSkip, Lib.itoa q.skip] else []
abbrev pLm (q : QryV) : List (List UInt8) := if 0 ≤ q.lim then [wLimit, Lib.itoa q.lim] else []
abbrev pHd (q : QryV) : List UInt8 := if q.cnt = true then wCount else wGet
theorem print_pieces {q : QryV} (h : rightQ q = true) : printQ q = pHd q ++ jT (pAt q) ++ jT (pFr q) ++ jT (pTo q) ++ jT (tsW wWhere q.ts) ++ jT (pBk q) ++ jT (pSk q) ++ jT (pLm q) := by
  unfold printQ
  rw [if_pos h]
  unfold prW
  rw [Lib.join_cons]
  show _ ++ jT _ = _
  rw [jT_app, jT_app, jT_app, jT_app, jT_app, jT_app]
  simp only [List.append_assoc]
theorem itoa_le {n : Int} (h0 : 0 ≤ n) (h1 : n ≤ 999999999) : (Lib.itoa n).length ≤ 9 := by
  rw [itoa_nat h0]
  exact digits_len 8 _ (by omega)
theorem tsW_snoc : ∀ (l : List TsV) (j : List UInt8) (t : TsV), tsW j (l ++ [t]) = tsW j l ++ [if l = [] then j else wAnd, fieldW t.1, opW t.2.1, quoB t.2.2]
  | [], j, t => rfl
  | a :: l, j, t => by
    show j :: fieldW a.1 :: opW a.2.1 :: quoB a.2.2 :: tsW wAnd (l ++ [t]) = _
    rw [tsW_snoc l wAnd t]
    show _ = j :: fieldW a.1 :: opW a.2.1 :: quoB a.2.2 :: (tsW wAnd l ++ _)
    rw [if_neg (List.cons_ne_nil a l)]
    split <;> rfl
theorem field_le (n : Int) : (fieldW n).length ≤ 5 := by
  unfold fieldW
  rcases Nat.lt_or_ge n.toNat 3 with h | h
  · have : ∀ k : Fin 3, (fieldsW.getD k.1 []).length ≤ 5 := by decide
    exact this ⟨_, h⟩
  · rw [List.getD_eq_getElem?_getD, List.getElem?_eq_none (show fieldsW.length ≤ n.toNat from h)]
    simp
theorem op_le (n : Int) : (opW n).length ≤ 6 := by
  unfold opW
  rcases Nat.lt_or_ge n.toNat 9 with h | h
  · have : ∀ k : Fin 9, (opsW.getD k.1 []).length ≤ 6 := by decide
    exact this ⟨_, h⟩
  · rw [List.getD_eq_getElem?_getD, List.getElem?_eq_none (show opsW.length ≤ n.toNat from h)]
    simp
theorem tsJ_le : ∀ (l : List TsV) (j : List UInt8), j.length ≤ 5 → (∀ t ∈ l, rightT t = true) → (jT (tsW j l)).length ≤ l.length * 1000
  | [], j, _, _ => by simp [tsW, Lib.joinTail]
  | t :: l, j, hj, h => by
    have ht := rightT_parts (h t (by simp))
    have h1 := field_le t.1
    have h2 := op_le t.2.1
    have h3 := quo_len t.2.2
    have ih := tsJ_le l wAnd (by decide) (fun x hx => h x (by simp [hx]))
    have e : jT (tsW j (t :: l)) = jT [j, fieldW t.1] ++ (jT [opW t.2.1, quoB t.2.2] ++ jT (tsW wAnd l)) := by rw [← jT_app, ← jT_app]; rfl
    rw [e, List.length_append, List.length_append, jT_len2, jT_len2, List.length_cons]
    omega
/-- What a query that may be is bound by. -/
theorem right_len {q : QryV} (h : rightQ q = true) : okQ q ∧ (∀ t ∈ q.ts, rightT t = true) ∧ LenQ q := by
  have hok : okQ q := by
    unfold rightQ at h
    have h1 := (Bool.and_eq_true_iff.1 h).1
    rw [decide_eq_true_eq] at h1
    exact h1
  have hall : ∀ t ∈ q.ts, rightT t = true := by
    rw [rightQ_ok hok] at h
    exact fun t ht => List.all_eq_true.1 h t ht
  refine ⟨hok, hall, ?_⟩
  unfold okQ at hok
  refine ⟨by omega, by omega, fun t ht => ?_⟩
  have := (rightT_parts (hall t ht)).2.2
  omega
theorem print_le {q : QryV} : (printQ q).length ≤ 100000 := by
  by_cases h : rightQ q = true
  rotate_left
  · unfold printQ
    rw [if_neg h]
    simp
  obtain ⟨hok, hall, _⟩ := right_len h
  unfold okQ at hok
  have h1 : (jT (pAt q)).length ≤ 20 := by
    unfold pAt; split
    · have := itoa_le (n := q.at_) (by omega) (by omega)
      rw [jT_len2]; simp only [List.length_cons, List.length_nil]; omega
    · simp [Lib.joinTail]
  have h2 : (jT (pFr q)).length ≤ 800 := by
    unfold pFr; split
    · have := quo_len q.fr
      rw [jT_len2]; simp only [List.length_cons, List.length_nil]; omega
    · simp [Lib.joinTail]
  have h3 : (jT (pTo q)).length ≤ 800 := by
    unfold pTo; split
    · have := quo_len q.to_
      rw [jT_len2]; simp only [List.length_cons, List.length_nil]; omega
    · simp [Lib.joinTail]
  have h4 := tsJ_le q.ts wWhere (by decide) hall
  have h5 : (jT (pBk q)).length ≤ 20 := by
    unfold pBk; split
    · rw [jT_len1]; simp
    · simp [Lib.joinTail]
  have h6 : (jT (pSk q)).length ≤ 20 := by
    unfold pSk; split
    · have := itoa_le (n := q.skip) (by omega) (by omega)
      rw [jT_len2]; simp only [List.length_cons, List.length_nil]; omega
    · simp [Lib.joinTail]
  have h7 : (jT (pLm q)).length ≤ 20 := by
    unfold pLm; split
    · have := itoa_le (n := q.lim) (by omega) (by omega)
      rw [jT_len2]; simp only [List.length_cons, List.length_nil]; omega
    · simp [Lib.joinTail]
  have h0 : (pHd q).length ≤ 5 := by unfold pHd; split <;> decide
  rw [print_pieces h]
  simp only [List.length_append]
  omega
end Go.Proofs.YtoimhmphhffelaaDoor
set_option linter.unusedVariables false
set_option linter.unusedSimpArgs false
namespace Go.Proofs.YtoimhmphhffelaaDoor
open Go Go.RowKit Go.Proofs.E
attribute [local irreducible] Go.wpList Go.Code.wp Go.Proofs.E.exec Go.Proofs.E.wpLexG
end Go.Proofs.YtoimhmphhffelaaDoor

/- Words shared by the laws of paths: pairs, remainders, three blocks in any order. -/
import Derived.Test.YtbecfcnbgeeghaaDoorClimb
import Derived.Test.YtbecfcnbgeeghaaDoorY
import Derived.Test.YtbecfcnbgeeghaaDoorLPaths
set_option linter.unusedVariables false
set_option linter.unusedSimpArgs false
namespace Go.Proofs.E
open Go Go.RowKit
section
variable {P : Program} {ops : Array Oper} {N : Nat} {S : List Nat} {Q : Exit → Act → World → Prop} {z : List Nat × List Nat} {fuel : Nat} {listed : Array Bool} {a : Act} {l l' : List Value} {w : World}
  {T : TypeId} {pos : String} {after : Array Edge}
theorem yn3 {o o' o'' : Oper} (k k' k'' : Nat) (hr : Region.ready .any ops listed = [k, k', k'']) (ho : ops[k]? = some o) (ho' : ops[k']? = some o') (ho'' : ops[k'']? = some o'')
    (h : ∀ w1, Ch [] w w1 → wpList P ops (Exit.then (fun a' w' => (Bw N S w1 w' ∨ (k ∈ z.1 ∧ N ≤ w'.heap.size)) ∧ WY P ops N S Q z fuel (listed.setIfInBounds k true) a' w') (NoP Q)) [o] (fr l) w1)
    (h' : ∀ w1, Ch [] w w1 → wpList P ops (Exit.then (fun a' w' => (Bw N S w1 w' ∨ (k' ∈ z.1 ∧ N ≤ w'.heap.size)) ∧ WY P ops N S Q z fuel (listed.setIfInBounds k' true) a' w') (NoP Q)) [o'] (fr l) w1)
    (h'' : ∀ w1, Ch [] w w1 → wpList P ops (Exit.then (fun a' w' => (Bw N S w1 w' ∨ (k'' ∈ z.1 ∧ N ≤ w'.heap.size)) ∧ WY P ops N S Q z fuel (listed.setIfInBounds k'' true) a' w') (NoP Q)) [o''] (fr l) w1) : WY P ops N S Q z (fuel + 1) listed (fr l) w := fun h0 h1 h2 h3 =>
  wpAnyY_all hr (by simp) fun i hi w1 hG => by
    have : i = k ∨ i = k' ∨ i = k'' := by simpa using hi
    rcases this with rfl | rfl | rfl
    · exact wy_op ho (h w1 hG) (Nat.le_trans h0 hG.size) h1 h2 h3 (by rw [hr]; simp)
    · exact wy_op ho' (h' w1 hG) (Nat.le_trans h0 hG.size) h1 h2 h3 (by rw [hr]; simp)
    · exact wy_op ho'' (h'' w1 hG) (Nat.le_trans h0 hG.size) h1 h2 h3 (by rw [hr]; simp)
/-- Three blocks, whichever comes up first. -/
theorem yal3 {d d' d'' : Nat} {E : TypeId} {zv : Value} {n by_ : Nat} {T' T'' : TypeId} {pos' pos'' : String} {after' after'' : Array Edge} [hi : Inf P E zv n by_] (k k' k'' : Nat) (hr : Region.ready .any ops listed = [k, k', k''])
    (ho : ops[k]? = some { dst := some d, op := .alloc E, type := T, pos := pos, after := after, guard := none }) (ho' : ops[k']? = some { dst := some d', op := .alloc E, type := T', pos := pos', after := after', guard := none }) (ho'' : ops[k'']? = some { dst := some d'', op := .alloc E, type := T'', pos := pos'', after := after'', guard := none })
    (hd : d ≠ d' ∧ d ≠ d'' ∧ d' ≠ d'') (hk : k ≠ k' ∧ k ≠ k'' ∧ k' ≠ k'') (hr1 : Region.ready .any ops (listed.setIfInBounds k true) = [k', k'']) (hr2 : Region.ready .any ops (listed.setIfInBounds k' true) = [k, k'']) (hr3 : Region.ready .any ops (listed.setIfInBounds k'' true) = [k, k'])
    (hr12 : Region.ready .any ops ((listed.setIfInBounds k true).setIfInBounds k' true) = [k'']) (hr13 : Region.ready .any ops ((listed.setIfInBounds k true).setIfInBounds k'' true) = [k']) (hr23 : Region.ready .any ops ((listed.setIfInBounds k' true).setIfInBounds k'' true) = [k])
    (h : ∀ w2 b b' b'', Ch [] w w2 → Blk w2 b zv.cells.toList E → Blk w2 b' zv.cells.toList E → Blk w2 b'' zv.cells.toList E → b ≠ b' → b ≠ b'' → b' ≠ b'' → w.heap.size ≤ b → w.heap.size ≤ b' → w.heap.size ≤ b'' →
      WY P ops N S Q z fuel (((listed.setIfInBounds k true).setIfInBounds k' true).setIfInBounds k'' true) (fr (((l.set d (.pointer (some ⟨b, 0, none⟩))).set d' (.pointer (some ⟨b', 0, none⟩))).set d'' (.pointer (some ⟨b'', 0, none⟩)))) w2) : WY P ops N S Q z (fuel + 3) listed (fr l) w := fun h0 => by
  refine yn3 k k' k'' hr ho ho' ho'' (fun w1 hc1 => wl_alloc (fun w2 b hb => x_wy (.inl (hb.ch.gy (Nat.le_trans h0 hc1.size))) rfl ?_)) (fun w1 hc1 => wl_alloc (fun w2 b hb => x_wy (.inl (hb.ch.gy (Nat.le_trans h0 hc1.size))) rfl ?_)) (fun w1 hc1 => wl_alloc (fun w2 b hb => x_wy (.inl (hb.ch.gy (Nat.le_trans h0 hc1.size))) rfl ?_)) h0
  all_goals (have e1 := hb.at_; have s1 := hb.size; have z1 := hc1.size)
  · refine yal2 k' k'' hr1 ho' ho'' hd.2.2 hk.2.2 hr12 hr13 (fun w3 b' b'' hc3 hB' hB'' hne hl' hl'' => ?_)
    exact h w3 b b' b'' ((hc1.then hb.ch).then hc3) (hb.blk.ch hc3 (by simp)) hB' hB'' (by omega) (by omega) hne (by omega) (by omega) (by omega)
  · refine yal2 k k'' hr2 ho ho'' hd.2.1 hk.2.1 (by rw [Array.setIfInBounds_comm _ _ (Ne.symm hk.1)]; exact hr12) hr23 (fun w3 b' b'' hc3 hB' hB'' hne hl' hl'' => ?_)
    have := h w3 b' b b'' ((hc1.then hb.ch).then hc3) hB' (hb.blk.ch hc3 (by simp)) hB'' (by omega) hne (by omega) (by omega) (by omega) (by omega)
    rw [Array.setIfInBounds_comm _ _ hk.1, List.set_comm _ _ hd.1] at this
    exact this
  · refine yal2 k k' hr3 ho ho' hd.1 hk.1 (by rw [Array.setIfInBounds_comm _ _ (Ne.symm hk.2.1)]; exact hr13) (by rw [Array.setIfInBounds_comm _ _ (Ne.symm hk.2.2)]; exact hr23) (fun w3 b' b'' hc3 hB' hB'' hne hl' hl'' => ?_)
    have := h w3 b' b'' b ((hc1.then hb.ch).then hc3) hB' hB'' (hb.blk.ch hc3 (by simp)) hne (by omega) (by omega) (by omega) (by omega) (by omega)
    rw [Array.setIfInBounds_comm _ _ hk.2.2, Array.setIfInBounds_comm _ _ hk.2.1, List.set_comm _ _ hd.2.2, List.set_comm _ _ hd.2.1] at this
    exact this
end
end Go.Proofs.E
namespace Go.Proofs.YtbecfcnbgeeghaaDoor
open Go Go.RowKit Go.Proofs.E
attribute [local irreducible] Go.wpList Go.Code.wp Go.Proofs.E.exec Go.Proofs.E.wpLexG
theorem at2_0 (a b : Hs) : (([a, b].flatMap eH.f).drop (0 + Int.toNat 0 * 32)).take 32 = a.1.map u8v := by
  simp [List.take_append_of_le_length, List.take_of_length_le, a.2]
theorem at2_1 (a b : Hs) : (([a, b].flatMap eH.f).drop (0 + Int.toNat 1 * 32)).take 32 = b.1.map u8v := by
  simp [List.drop_append, List.drop_of_length_le, List.take_of_length_le, a.2, b.2]
theorem lives10_g {S : List Nat} {w : World} (hK : ∀ w1, Ch S w w1 → Laid w1) : ∀ w1, Ch S w w1 → Calls Tryd.prog 27 #[] w1 (Ret fun v w2 => v = .bool true ∧ Ch S w1 w2) :=
  fun w1 hc => none_ch (lives10_any w1 (hK w1 hc))
def hv2 (a b : Hs) : Value := .agg ([a, b].flatMap eH.f).toArray
def nv2 (m n : Int) : Value := .agg #[.int .i64 m, .int .i64 n]
theorem down_turns (N : Nat) : ∀ (l : List Hs) (i : Nat), l.length = N → l.length ≤ 1000000000 → (downH l i).length = (turnsN l.length i).length := by
  induction N using Nat.strongRecOn with
  | _ N ih =>
    intro l i hN hb
    by_cases h1 : l.length ≤ 1
    · rw [down_one h1, turns_one h1]
      rfl
    · have hk := splitN_lt (n := l.length) (by omega) (by omega)
      by_cases hi : i < splitN l.length
      · have := ih (l.take (splitN l.length)).length (by rw [List.length_take]; omega) (l.take (splitN l.length)) i rfl (by rw [List.length_take]; omega)
        rw [down_left (by omega) hb hi, turns_left (by omega) (by omega) hi, List.length_cons, List.length_cons, this, List.length_take, Nat.min_eq_left (by omega)]
      · have := ih (l.drop (splitN l.length)).length (by rw [List.length_drop]; omega) (l.drop (splitN l.length)) (i - splitN l.length) rfl (by rw [List.length_drop]; omega)
        rw [down_right (by omega) hb hi, turns_right (by omega) (by omega) hi, List.length_cons, List.length_cons, this, List.length_drop]
theorem remN (a b : Nat) : ((a : Int).tmod (b : Int)) = ((a % b : Nat) : Int) := (Int.ofNat_tmod a b).symm
theorem shl1_i64 {k : Nat} (h : k ≤ 62) : IntKind.i64.wrap (1 * 2 ^ min (k : Int).toNat IntKind.i64.bits) = ((2 ^ k : Nat) : Int) := by
  have h2 : 2 ^ k ≤ 2 ^ 62 := Nat.pow_le_pow_right (by omega) h
  rw [Int.toNat_natCast, Nat.min_eq_left (show k ≤ IntKind.i64.bits by simp only [IntKind.bits]; omega), Int.one_mul, show ((2 : Int) ^ k) = ((2 ^ k : Nat) : Int) by simp]
  generalize 2 ^ k = p at h2 ⊢
  exact wrap_i64 ⟨by omega, by omega⟩
theorem r_to' {P : Program} {l : List Value} {op : Op} {T : TypeId} {w w' : World} {a b : Bool} (h : (exec (ev l) op T).run P w = .ok (.value (.bool a)) w') (e : a = b) : (exec (ev l) op T).run P w = .ok (.value (.bool b)) w' := e ▸ h
theorem rem_to {a : Nat} {i : Int} {b : Nat} (h : i = (b : Int)) : ((a : Int).tmod i) = ((a % b : Nat) : Int) := by subst h; exact remN a b
end Go.Proofs.YtbecfcnbgeeghaaDoor

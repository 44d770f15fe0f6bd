/- Own memory: two blocks at once; what a callee hands back; a whole block stored; a string turned into bytes. -/
import Derived.Test.YtoimhmphhffelaaDoorQQueryBack09
import Derived.Lib.ConvBytes
set_option linter.unusedVariables false
set_option linter.unusedSimpArgs false
namespace Go.Proofs.E
open Go Go.RowKit
theorem Mem.take2 {b c : Nat} {cs ds : List Value} {E F : TypeId} {w0 : World} (hB : Blk w0 b cs E) (hC : Blk w0 c ds F) (hne : b ≠ c) : Mem [b, c] w0 w0 [.cell b cs E, .cell c ds F] := by
  refine ⟨Ch.refl _ _, fun a ha => ?_, fun a ha k hk => ?_, ?_⟩
  · rcases List.mem_cons.1 ha with rfl | ha
    · exact hB
    · rcases List.mem_cons.1 ha with rfl | ha
      · exact hC
      · cases ha
  · rcases List.mem_cons.1 ha with rfl | ha
    · exact .inr (by simp [show k = b from hk])
    · rcases List.mem_cons.1 ha with rfl | ha
      · exact .inr (by simp [show k = c from hk])
      · cases ha
  · refine List.pairwise_cons.2 ⟨fun a ha k hk hk' => ?_, by simp⟩
    rcases List.mem_cons.1 ha with rfl | ha
    · exact hne ((show k = b from hk).symm.trans hk')
    · cases ha
theorem Mem.set2 {O : List Nat} {w0 w w' : World} {L : List As} {b c : Nat} {cs cs' ds ds' : List Value} {E F : TypeId} (h : Mem O w0 w (.cell b cs E :: .cell c ds F :: L)) (hB : Blk w' b cs' E) (hC : Blk w' c ds' F) (hc : Ch [b, c] w w') : Mem O w0 w' (.cell b cs' E :: .cell c ds' F :: L) := by
  obtain ⟨h1, h2⟩ := List.pairwise_cons.1 h.dis
  obtain ⟨h3, h4⟩ := List.pairwise_cons.1 h2
  have hnb : w0.heap.size ≤ b ∨ b ∈ O := h.new (.cell b cs E) (by simp) b rfl
  have hnc : w0.heap.size ≤ c ∨ c ∈ O := h.new (.cell c ds F) (by simp) c rfl
  refine ⟨h.ch.trans hc (fun _ _ h => h) (fun x hx hm => ?_), fun a ha => ?_, fun a ha k hk => ?_, List.pairwise_cons.2 ⟨fun a ha k hk hk' => ?_, List.pairwise_cons.2 ⟨fun a ha k hk hk' => ?_, h4⟩⟩⟩
  · simp only [List.mem_cons, List.not_mem_nil, or_false] at hm
    rcases hm with rfl | rfl
    · exact hnb.resolve_left (by omega)
    · exact hnc.resolve_left (by omega)
  · rcases List.mem_cons.1 ha with rfl | ha
    · exact hB
    rcases List.mem_cons.1 ha with rfl | hL
    · exact hC
    refine As.st a hc (fun k hk => ?_) (h.all a (List.mem_cons_of_mem _ (List.mem_cons_of_mem _ hL)))
    simp only [List.mem_cons, List.not_mem_nil, or_false] at hk
    rcases hk with rfl | rfl
    · exact ⟨hnb, h1 a (List.mem_cons_of_mem _ hL) _ rfl⟩
    · exact ⟨hnc, h3 a hL _ rfl⟩
  · rcases List.mem_cons.1 ha with rfl | ha
    · exact (show k = b from hk) ▸ hnb
    rcases List.mem_cons.1 ha with rfl | ha
    · exact (show k = c from hk) ▸ hnc
    exact h.new a (by simp [ha]) k hk
  · rcases List.mem_cons.1 ha with rfl | ha
    · exact h1 (.cell c ds F) (by simp) k hk hk'
    · exact h1 a (by simp [ha]) k hk hk'
  · exact h3 a ha k hk hk'
theorem Mem.cellSet2 {O : List Nat} {w0 w w' : World} {L L' L'' : List As} {b c : Nat} {cs cs' ds ds' : List Value} {E F : TypeId} (h : Mem O w0 w L) (hB : Blk w' b cs' E) (hC : Blk w' c ds' F) (hc : Ch [b, c] w w')
    (hp : Pick L (.cell b cs E) L' := by (repeat (first | exact Go.Proofs.E.Pick.here | apply Go.Proofs.E.Pick.there))) (hq : Pick L' (.cell c ds F) L'' := by (repeat (first | exact Go.Proofs.E.Pick.here | apply Go.Proofs.E.Pick.there))) : Mem O w0 w' (.cell b cs' E :: .cell c ds' F :: L'') :=
  (h.perm (hp.perm.trans (List.Perm.cons _ hq.perm))).set2 hB hC hc
/-- What changes two blocks, in a drawn region that has both in hand. -/
structure Ch2 (b c : Nat) (w w' : World) : Prop where
  ch : Ch [b, c] w w'
theorem Ch2.gy {b c N : Nat} {w w' : World} (h : Ch2 b c w w') (hn : N ≤ w.heap.size) : Bw N [b, c] w w' := ⟨h.ch.os, h.ch.tape, h.ch.output, h.ch.size, fun k hk hS => h.ch.block k (by omega) hS⟩
theorem Ch2.size {b c : Nat} {w w' : World} (h : Ch2 b c w w') : w.heap.size ≤ w'.heap.size := h.ch.size
/-- What a call handed back that was given a block: the block as it stands now, and all that is new. -/
theorem Mem.joinO {O : List Nat} {w0 w w' : World} {L M : List As} {b : Nat} {cs cs' : List Value} {E : TypeId} (h : Mem O w0 w (.cell b cs E :: L)) (k : Mem [b] w w' (.cell b cs' E :: M)) (hp : ∀ a ∈ M, a.plain) : Mem O w0 w' (.cell b cs' E :: (M ++ L)) := by
  have h1 : Mem O w0 w' (.cell b cs' E :: L) := h.put (S := [b]) k.ch (fun j hj => show j = b by simpa using hj) k.head (fun j hj => .inl hj)
  have hn : ∀ a ∈ M, ∀ j, a.own j → w.heap.size ≤ j ∧ j ≠ b := fun a ha j hj => by
    have hb : j ≠ b := fun e => (List.pairwise_cons.1 k.dis).1 a ha b rfl (e ▸ hj)
    exact ⟨(k.new a (by simp [ha]) j hj).resolve_right (by simpa using hb), hb⟩
  have hd := List.pairwise_cons.1 h1.dis
  have hk := List.pairwise_cons.1 k.dis
  refine ⟨h1.ch, fun a ha => ?_, fun a ha j hj => ?_, List.pairwise_cons.2 ⟨fun a ha j hj hja => ?_, List.pairwise_append.2 ⟨hk.2, hd.2, fun a ha c hc j hj hj' => ?_⟩⟩⟩
  · rcases List.mem_cons.1 ha with rfl | ha
    · exact h1.head
    rcases List.mem_append.1 ha with ha | ha
    · exact a.free (hp a ha) (k.all a (by simp [ha]))
    · exact h1.all a (by simp [ha])
  · rcases List.mem_cons.1 ha with rfl | ha
    · exact h1.new _ (by simp) j hj
    rcases List.mem_append.1 ha with ha | ha
    · exact .inl (Nat.le_trans h.ch.size (hn a ha j hj).1)
    · exact h1.new a (by simp [ha]) j hj
  · rcases List.mem_append.1 ha with ha | ha
    · exact (hn a ha j hja).2 hj
    · exact hd.1 a ha j hj hja
  · have h2 := (hn a ha j hj).1
    have h3 := c.lt (h.all c (by simp [hc])) j hj'
    omega
theorem kstH {P : Program} {ops : Array Oper} {Q : Exit → Act → World → Prop} {rest : List Oper} {l : List Value} {O : List Nat} {w0 w : World} {L L' : List As} {T : TypeId} {pos : String} {after : Array Edge} {x y : Operand} {E t : TypeId} {b n by_ : Nat} {cs vs : List Value} {z : Value} [hi : Inf P t z n by_] (hM : Mem O w0 w L) (h : ∀ w', Ch [b] w w' → Mem O w0 w' (.cell b vs E :: L') → wpList P ops Q rest (fr l) w')
    (hln : vs.length = n) (hf : cs.length = n) (hx : ev l x = .pointer (some ⟨b, 0, none⟩) := by exact rfl) (hp : Pick L (.cell b cs E) L' := by (repeat (first | exact Go.Proofs.E.Pick.here | apply Go.Proofs.E.Pick.there))) (hy : ev l y = .agg vs.toArray := by exact rfl) 
    (h1 : ∀ u ∈ vs, u.oneCell' = true := by exact Go.Proofs.E.one_u8) :
    wpList P ops Q ({ dst := none, op := .store t x y, type := T, pos := pos, after := after, guard := none } :: rest) (fr l) w :=
  stbw (hM.blk hp) hx hy hln hf h1 fun w' hB hc _ => h w' hc ((hM.pick hp).set hB hc)
section
variable {P : Program} {ops : Array Oper} {Q : Exit → Act → World → Prop} {rest : List Oper} {l l' : List Value} {O : List Nat} {w0 w : World} {L L' : List As} {T : TypeId} {pos : String} {after : Array Edge}
end
end Go.Proofs.E

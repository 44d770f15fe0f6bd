/- The engine's own memory as one list of things owned: facts need not be moved from world to world. -/
import Derived.Test.YtoimhmphhffelaaDoorQQueryBack04
import Derived.Laws.Tables
set_option linter.unusedVariables false
set_option linter.unusedSimpArgs false
namespace Go.Proofs.E
open Go Go.RowKit
/-- A thing that a walk owns: a block and its cells; a row that it made; something that is read, off all else that may be written. -/
inductive As : Type 1
  | cell (b : Nat) (cs : List Value) (E : TypeId)
  | row {α : Type} (en : En α) (E : TypeId) (v : Value) (xs : List α)
  | rd {α : Type} (t : Ty α) (B : Nat → Prop) (v : Value) (xs : List α)
  | obj (k : Nat) (o : Obj)
  | gen (B : Nat → Prop) (R : List Nat → World → Prop) (mv : ∀ {S S' : List Nat} {w w' : World}, Ch S' w w' → (∀ k, k < w.heap.size → k ∈ S' → k ∈ S) → R S w → R S' w')
def As.own : As → Nat → Prop
  | .cell b _ _, k => k = b
  | .row _ _ v _, k => v.ownBlock = some k
  | .rd _ B _ _, k => B k
  | .obj j _, k => k = j
  | .gen B _ _, k => B k
def As.P (O : List Nat) (n0 : Nat) : As → World → Prop
  | .cell b cs E, w => Blk w b cs E
  | .row en E v xs, w => Own en w 0 E v xs
  | .rd t B v xs, w => (∀ k, B k → k < w.heap.size) ∧ ∀ S : List Nat, (∀ k ∈ S, (n0 ≤ k ∨ k ∈ O) ∧ ¬ B k) → t.Rd S w v xs
  | .obj k o, w => w.heap[k]? = some o
  | .gen B R _, w => (∀ k, B k → k < w.heap.size) ∧ ∀ S : List Nat, (∀ k ∈ S, ¬ B k) → R S w
theorem As.st {O : List Nat} {n0 : Nat} : ∀ (a : As) {S : List Nat} {w w' : World}, Ch S w w' → (∀ k ∈ S, (n0 ≤ k ∨ k ∈ O) ∧ ¬ a.own k) → a.P O n0 w → a.P O n0 w'
  | .cell b cs E, S, w, w', hc, hS, h => Blk.ch h hc fun hm => (hS b hm).2 rfl
  | .row en E v xs, S, w, w', hc, hS, h => Own.ch h hc fun k hk hm => (hS k hm).2 hk
  | .rd t B v xs, S, w, w', hc, hS, ⟨h1, h2⟩ => ⟨fun k hk => Nat.lt_of_lt_of_le (h1 k hk) hc.size, fun S' hS' =>
      ((h2 (S' ++ S) fun k hk => (List.mem_append.1 hk).elim (hS' k) (hS k)).mv (hc.mono (fun x _ hx => List.mem_append.2 (.inr hx))) (fun _ _ h => h)).mv (Ch.refl S' w') (fun x _ hx => List.mem_append.2 (.inl hx))⟩
  | .obj k o, S, w, w', hc, hS, h => (hc.block k (Array.getElem?_eq_some_iff.1 h).1 (fun hm => (hS k hm).2 rfl)).trans h
  | .gen B R mv, S, w, w', hc, hS, ⟨h1, h2⟩ => ⟨fun k hk => Nat.lt_of_lt_of_le (h1 k hk) hc.size, fun S' hS' =>
      mv (Ch.refl S' w') (fun x _ hx => List.mem_append.2 (.inl hx)) (mv (S' := S' ++ S) (hc.mono (fun x _ hx => List.mem_append.2 (.inr hx))) (fun _ _ h => h) (h2 (S' ++ S) fun k hk => (List.mem_append.1 hk).elim (hS' k) (fun hk => (hS k hk).2)))⟩
theorem As.lt {O : List Nat} {n0 : Nat} : ∀ (a : As) {w : World}, a.P O n0 w → ∀ k, a.own k → k < w.heap.size
  | .cell b cs E, w, h, k, hk => (show k = b from hk) ▸ Blk.lt h
  | .row en E v xs, w, h, k, hk => (Own.lt h hk).2
  | .rd t B v xs, w, h, k, hk => h.1 k hk
  | .obj j o, w, h, k, hk => (show k = j from hk) ▸ (Array.getElem?_eq_some_iff.1 h).1
  | .gen B R mv, w, h, k, hk => h.1 k hk
/-- All that a walk owns that began at w0: apart from one another, and new. -/
structure Mem (O : List Nat) (w0 w : World) (L : List As) : Prop where
  ch : Ch O w0 w
  all : ∀ a ∈ L, a.P O w0.heap.size w
  new : ∀ a ∈ L, ∀ k, a.own k → w0.heap.size ≤ k ∨ k ∈ O
  dis : L.Pairwise fun a c => ∀ k, a.own k → ¬ c.own k
theorem Mem.start (w : World) : Mem [] w w [] := ⟨Ch.refl _ _, by simp, by simp, .nil⟩
theorem Mem.begin {O : List Nat} {w0 w : World} (h : Ch O w0 w) : Mem O w0 w [] := ⟨h, by simp, by simp, .nil⟩
inductive Pick : List As → As → List As → Prop
  | here {a : As} {L : List As} : Pick (a :: L) a L
  | there {a c : As} {L L' : List As} : Pick L a L' → Pick (c :: L) a (c :: L')
theorem Pick.perm {L L' : List As} {a : As} (h : Pick L a L') : L.Perm (a :: L') := by
  induction h with
  | here => exact .refl _
  | there _ ih => exact (List.Perm.cons _ ih).trans (List.Perm.swap _ _ _)
section
variable {O : List Nat} {w0 w w' : World} {L L' : List As} {a a' : As}
theorem Mem.perm (h : Mem O w0 w L) (hp : L.Perm L') : Mem O w0 w L' :=
  ⟨h.ch, fun a ha => h.all a (hp.mem_iff.2 ha), fun a ha => h.new a (hp.mem_iff.2 ha), (hp.pairwise_iff (fun h k hk ha => h k ha hk)).1 h.dis⟩
theorem Mem.pick (h : Mem O w0 w L) (hp : Pick L a L') : Mem O w0 w (a :: L') := h.perm hp.perm
theorem Mem.drop (h : Mem O w0 w (a :: L)) : Mem O w0 w L := ⟨h.ch, fun c hc => h.all c (by simp [hc]), fun c hc => h.new c (by simp [hc]), (List.pairwise_cons.1 h.dis).2⟩
theorem Mem.nil (h : Mem O w0 w L) : Mem O w0 w [] := .begin h.ch
theorem Mem.head (h : Mem O w0 w (a :: L)) : a.P O w0.heap.size w := h.all a (by simp)
theorem Mem.call (h : Mem O w0 w L) (hc : Ch [] w w') : Mem O w0 w' L := ⟨h.ch.add hc, fun a ha => a.st hc (by simp) (h.all a ha), h.new, h.dis⟩
theorem Mem.put {S : List Nat} (h : Mem O w0 w (a :: L)) (hc : Ch S w w') (hS : ∀ k ∈ S, a.own k) (ha : a'.P O w0.heap.size w') (ho : ∀ k, a'.own k → a.own k ∨ w.heap.size ≤ k) : Mem O w0 w' (a' :: L) := by
  obtain ⟨hd, hd'⟩ := List.pairwise_cons.1 h.dis
  have hn : ∀ k, a.own k → w0.heap.size ≤ k ∨ k ∈ O := h.new a (by simp)
  refine ⟨h.ch.trans hc (fun _ _ h => h) (fun x hx hm => (hn x (hS x hm)).resolve_left (by omega)), fun c hcm => ?_, fun c hcm k hk => ?_, List.pairwise_cons.2 ⟨fun c hcm k hk hck => ?_, hd'⟩⟩
  · rcases List.mem_cons.1 hcm with rfl | hcm
    · exact ha
    · exact c.st hc (fun k hk => ⟨hn k (hS k hk), hd c hcm k (hS k hk)⟩) (h.all c (by simp [hcm]))
  · rcases List.mem_cons.1 hcm with rfl | hcm
    · exact (ho k hk).elim (hn k) (fun hw => .inl (Nat.le_trans h.ch.size hw))
    · exact h.new c (by simp [hcm]) k hk
  · rcases ho k hk with hk' | hw
    · exact hd c hcm k hk' hck
    · have := c.lt (h.all c (by simp [hcm])) k hck
      omega
/-- A result that is new. -/
theorem Mem.res (h : Mem O w0 w L) (hc : Ch [] w w') (ha : a.P O w0.heap.size w') (ho : ∀ k, a.own k → w.heap.size ≤ k) : Mem O w0 w' (a :: L) := by
  have h0 : Mem O w0 w (As.rd tU8 (fun _ => False) (.slice none 0 0) [] :: L) :=
    ⟨h.ch, fun c hcm => (List.mem_cons.1 hcm).elim (fun e => by subst e; exact ⟨fun k hk => hk.elim, fun S _ => Ty.Rd.nil _ _ _ _ _⟩) (h.all c), fun c hcm k hk => (List.mem_cons.1 hcm).elim (fun e => by subst e; exact hk.elim) (fun hm => h.new c hm k hk),
      List.pairwise_cons.2 ⟨fun c _ k hk => hk.elim, h.dis⟩⟩
  exact h0.put (S := []) hc (by simp) ha (fun k hk => .inr (ho k hk))
theorem Mem.alloc {b : Nat} {cs : List Value} {E : TypeId} (h : Mem O w0 w L) (hN : New w w' b cs E) : Mem O w0 w' (.cell b cs E :: L) :=
  h.res hN.ch hN.blk (fun k hk => by rw [show k = b from hk, hN.at_]; exact Nat.le_refl _)
theorem Mem.blk {b : Nat} {cs : List Value} {E : TypeId} (h : Mem O w0 w L) (hp : Pick L (.cell b cs E) L') : Blk w b cs E := (h.pick hp).head
theorem Mem.ge {b : Nat} {cs : List Value} {E : TypeId} (h : Mem [] w0 w L) (hp : Pick L (.cell b cs E) L') : w0.heap.size ≤ b := ((h.pick hp).new (.cell b cs E) (by simp) b rfl).resolve_right (by simp)
theorem Mem.set {b : Nat} {cs cs' : List Value} {E : TypeId} (h : Mem O w0 w (.cell b cs E :: L)) (hB : Blk w' b cs' E) (hc : Ch [b] w w') : Mem O w0 w' (.cell b cs' E :: L) :=
  h.put (S := [b]) hc (fun k hk => show k = b by simpa using hk) hB (fun k hk => .inl hk)
theorem Own.rebase {α : Type} {en : En α} {b b' : Nat} {E : TypeId} {v : Value} {xs : List α} (h : Own en w b E v xs) (hb : ∀ k, v.ownBlock = some k → b' ≤ k) : Own en w b' E v xs := by
  obtain ⟨h1, h2⟩ := h
  refine ⟨h1, ?_⟩
  rcases h2 with h2 | ⟨g, cap, cur, rfl, hg, hh, r⟩
  · exact .inl h2
  · exact .inr ⟨g, cap, cur, rfl, hb g rfl, hh, r⟩
/-- A row that a call handed back. -/
theorem Mem.got {α : Type} {en : En α} {E : TypeId} {v : Value} {xs : List α} (h : Mem O w0 w L) (hc : Ch [] w w') (hO : Own en w' w.heap.size E v xs) : Mem O w0 w' (.row en E v xs :: L) :=
  h.res hc (Own.rebase hO (fun _ _ => Nat.zero_le _)) (fun k hk => (Own.lt hO hk).1)
/-- A row's word. -/
theorem Mem.row {α : Type} {en : En α} {E : TypeId} {v : Value} {xs : List α} (h : Mem [] w0 w L) (hp : Pick L (.row en E v xs) L') : Own en w w0.heap.size E v xs :=
  Own.rebase (h.pick hp).head (fun k hk => ((h.pick hp).new (.row en E v xs) (by simp) k hk).resolve_right (by simp))
theorem Mem.row0 {α : Type} {en : En α} {E : TypeId} {v : Value} {xs : List α} (h : Mem O w0 w L) (hp : Pick L (.row en E v xs) L') : Own en w 0 E v xs := (h.pick hp).head
/-- A row with nothing in it. -/
theorem Mem.nilRow {α : Type} (en : En α) (E : TypeId) (h : Mem O w0 w L) : Mem O w0 w (.row en E (.slice none 0 0) [] :: L) :=
  h.res (Ch.refl _ _) (Own.nil _ _ _ _) (fun k hk => by cases (show (none : Option Nat) = some k from hk))
/-- An old block taken into one's hands. -/
theorem Mem.take {b : Nat} {cs : List Value} {E : TypeId} {w0 : World} (hB : Blk w0 b cs E) : Mem [b] w0 w0 [.cell b cs E] :=
  ⟨Ch.refl _ _, fun a ha => by simp at ha; subst ha; exact hB, fun a ha k hk => by simp at ha; subst ha; exact .inr (by simp [show k = b from hk]), by simp⟩
/-- A row that was read alone. -/
theorem Mem.rowRd {α : Type} {en : En α} {E : TypeId} {v : Value} {xs : List α} (h : Mem O w0 w L) (hp : Pick L (.row en E v xs) L') (hb : xs.length ≤ 9223372036854775807) : (Ty.enc en).Rd [] w v xs :=
  (h.row0 hp).rd (by simp) hb
/-- A part of a list owned is found again. -/
inductive Sub : List As → List As → Prop
  | nil {L : List As} : Sub [] L
  | cons {a : As} {L L' M : List As} : Pick L a L' → Sub M L' → Sub (a :: M) L
theorem Mem.sub {M : List As} (h : Mem O w0 w L) (hs : Sub M L) : Mem O w0 w M := by
  induction hs with
  | nil => exact h.nil
  | cons hp hs ih =>
    rename_i a L L' M
    have h1 := h.pick hp
    have h2 := ih h1.drop
    exact ⟨h2.ch, fun c hc => (List.mem_cons.1 hc).elim (fun e => e ▸ h1.head) (h2.all c), fun c hc k hk => (List.mem_cons.1 hc).elim (fun e => by subst e; exact h1.new _ (by simp) k hk) (fun hm => h2.new c hm k hk),
      List.pairwise_cons.2 ⟨fun c hc k hk hck => by
        have hL : ∀ {M L : List As}, Sub M L → ∀ c ∈ M, c ∈ L := by
          intro M L hs
          induction hs with
          | nil => simp
          | cons hp _ ih2 => exact fun c hc => hp.perm.mem_iff.2 ((List.mem_cons.1 hc).elim (fun e => by simp [e]) (fun hm => by simp [ih2 c hm]))
        exact (List.pairwise_cons.1 h1.dis).1 c (hL hs c hc) k hk hck, h2.dis⟩⟩
end
section
variable {P : Program} {ops : Array Oper} {Q : Exit → Act → World → Prop} {rest : List Oper} {l l' : List Value} {O : List Nat} {w0 w : World} {L L' : List As} {T : TypeId} {pos : String} {after : Array Edge}
theorem is_ld {d : Nat} {E : TypeId} {x : Operand} (h : wpList P ops Q ({ dst := some d, op := .load E x, type := T, pos := pos, after := after, guard := none } :: rest) (fr l) w) : wpList P ops Q ({ dst := some d, op := .load E x, type := T, pos := pos, after := after, guard := none } :: rest) (fr l) w := h
theorem is_sto {d : Option Nat} {E : TypeId} {x y : Operand} (h : wpList P ops Q ({ dst := d, op := .store E x y, type := T, pos := pos, after := after, guard := none } :: rest) (fr l) w) : wpList P ops Q ({ dst := d, op := .store E x y, type := T, pos := pos, after := after, guard := none } :: rest) (fr l) w := h
theorem kal {d : Nat} {E : TypeId} {z : Value} {n by_ : Nat} [hi : Inf P E z n by_] (hM : Mem O w0 w L) (h : ∀ w' b, Mem O w0 w' (.cell b z.cells.toList E :: L) → wpList P ops Q rest (fr (l.set d (.pointer (some ⟨b, 0, none⟩)))) w') :
    wpList P ops Q ({ dst := some d, op := .alloc E, type := T, pos := pos, after := after, guard := none } :: rest) (fr l) w := wl_alloc fun w' b hN => h w' b (hM.alloc hN)
theorem kbx {d : Nat} {E : TypeId} {x : Operand} {v : Value} (hM : Mem O w0 w L) (h : ∀ w' b, Mem O w0 w' (.cell b v.cells.toList E :: L) → wpList P ops Q rest (fr (l.set d (.pointer (some ⟨b, 0, none⟩)))) w') (hx : ev l x = v := by exact rfl) :
    wpList P ops Q ({ dst := some d, op := .box E x, type := T, pos := pos, after := after, guard := none } :: rest) (fr l) w := wl_box hx fun w' b hN => h w' b (hM.alloc hN)
theorem kld {d : Nat} {x : Operand} {E E' : TypeId} {b o : Nat} {cs : List Value} {v : Value} [hr : One P E] (hM : Mem O w0 w L) (h : wpList P ops Q rest (fr l') w)
    (hx : ev l x = .pointer (some ⟨b, o, none⟩) := by exact rfl) (hp : Pick L (.cell b cs E') L' := by (repeat (first | exact Go.Proofs.E.Pick.here | apply Go.Proofs.E.Pick.there))) (hv : cs[o]? = some v := by exact rfl)
    (hl : l.set d v = l' := by first | (dsimp only [List.set, Go.Proofs.E.set1, Go.Proofs.E.ev, Go.Proofs.E.nth]; done) | exact rfl) :
    wpList P ops Q ({ dst := some d, op := .load E x, type := T, pos := pos, after := after, guard := none } :: rest) (fr l) w := by subst hl; exact ldb (hM.blk hp) hx hv h
/-- A whole block loaded. -/
theorem kldw {d : Nat} {x : Operand} {E E' : TypeId} {b n by_ : Nat} {cs : List Value} {z : Value} [hr : Row P E] [hi : Inf P E z n by_] (hM : Mem O w0 w L) (h : wpList P ops Q rest (fr l') w)
    (hx : ev l x = .pointer (some ⟨b, 0, none⟩) := by exact rfl) (hp : Pick L (.cell b cs E') L' := by (repeat (first | exact Go.Proofs.E.Pick.here | apply Go.Proofs.E.Pick.there))) (hn : cs.length = n := by (first | exact rfl | (simp; done) | (simp only [List.length_map]; exact Subtype.property (p := fun a : List UInt8 => a.length = 32) _)))
    (hl : l.set d (.agg cs.toArray) = l' := by first | (dsimp only [List.set, Go.Proofs.E.set1, Go.Proofs.E.ev, Go.Proofs.E.nth]; done) | exact rfl) :
    wpList P ops Q ({ dst := some d, op := .load E x, type := T, pos := pos, after := after, guard := none } :: rest) (fr l) w := by
  subst hl
  exact ldbr (hM.blk hp) hx (ds := cs) (by rw [List.drop_zero, List.take_of_length_le (by omega)]) hn h
/-- A cell that was there when the walk began, and that it does not turn. -/
theorem kle {d : Nat} {x : Operand} {E E' : TypeId} {b o : Nat} {cs : List Value} {v : Value} [hr : One P E] (hM : Mem O w0 w L) (h : wpList P ops Q rest (fr l') w)
    (hx : ev l x = .pointer (some ⟨b, o, none⟩) := by exact rfl) (hB : Blk w0 b cs E' := by assumption) (hn : b ∉ O := by first | assumption | (simp; done)) (hv : cs[o]? = some v := by exact rfl)
    (hl : l.set d v = l' := by first | (dsimp only [List.set, Go.Proofs.E.set1, Go.Proofs.E.ev, Go.Proofs.E.nth]; done) | exact rfl) :
    wpList P ops Q ({ dst := some d, op := .load E x, type := T, pos := pos, after := after, guard := none } :: rest) (fr l) w := by subst hl; exact ldb (hB.ch hM.ch hn) hx hv h
theorem klew {d : Nat} {x : Operand} {E E' : TypeId} {b n by_ : Nat} {cs : List Value} {z : Value} [hr : Row P E] [hi : Inf P E z n by_] (hM : Mem O w0 w L) (h : wpList P ops Q rest (fr l') w)
    (hx : ev l x = .pointer (some ⟨b, 0, none⟩) := by exact rfl) (hB : Blk w0 b cs E' := by assumption) (hn' : b ∉ O := by first | assumption | (simp; done)) (hn : cs.length = n := by (first | exact rfl | (simp; done) | (simp only [List.length_map]; exact Subtype.property (p := fun a : List UInt8 => a.length = 32) _)))
    (hl : l.set d (.agg cs.toArray) = l' := by first | (dsimp only [List.set, Go.Proofs.E.set1, Go.Proofs.E.ev, Go.Proofs.E.nth]; done) | exact rfl) :
    wpList P ops Q ({ dst := some d, op := .load E x, type := T, pos := pos, after := after, guard := none } :: rest) (fr l) w := by
  subst hl
  exact ldbr (hB.ch hM.ch hn') hx (ds := cs) (by rw [List.drop_zero, List.take_of_length_le (by omega)]) hn h
theorem kst {x y : Operand} {E t : TypeId} {b o by_ : Nat} {cs cs' : List Value} {v z : Value} [hi : Inf P t z 1 by_] (hM : Mem O w0 w L) (h : ∀ w', Mem O w0 w' (.cell b cs' E :: L') → wpList P ops Q rest (fr l) w')
    (hx : ev l x = .pointer (some ⟨b, o, none⟩) := by exact rfl) (hp : Pick L (.cell b cs E) L' := by (repeat (first | exact Go.Proofs.E.Pick.here | apply Go.Proofs.E.Pick.there))) (hy : ev l y = v := by exact rfl) (hv : v.cells = #[v] := by exact rfl) (h1 : v.oneCell' = true := by exact rfl) (hf : o < cs.length := by first | exact Nat.le_of_ble_eq_true rfl | (simp; done))
    (hs : cs.set o v = cs' := by first | (dsimp only [List.set, Go.Proofs.E.set1, Go.Proofs.E.ev, Go.Proofs.E.nth]; done) | exact rfl) :
    wpList P ops Q ({ dst := none, op := .store t x y, type := T, pos := pos, after := after, guard := none } :: rest) (fr l) w := by
  subst hs
  exact stb (hM.blk hp) hx hy hv h1 hf fun w' hB hc _ => h w' ((hM.pick hp).set hB hc)
theorem kstw {x y : Operand} {E t : TypeId} {b n by_ : Nat} {cs vs : List Value} {z : Value} [hi : Inf P t z n by_] (hM : Mem O w0 w L) (h : ∀ w', Mem O w0 w' (.cell b vs E :: L') → wpList P ops Q rest (fr l) w')
    (hx : ev l x = .pointer (some ⟨b, 0, none⟩) := by exact rfl) (hp : Pick L (.cell b cs E) L' := by (repeat (first | exact Go.Proofs.E.Pick.here | apply Go.Proofs.E.Pick.there))) (hy : ev l y = .agg vs.toArray := by exact rfl) (hln : vs.length = n := by (first | exact rfl | (simp; done) | (simp only [List.length_map]; exact Subtype.property (p := fun a : List UInt8 => a.length = 32) _))) (hf : cs.length = n := by (first | exact rfl | (simp; done) | (simp only [List.length_map]; exact Subtype.property (p := fun a : List UInt8 => a.length = 32) _)))
    (h1 : ∀ u ∈ vs, u.oneCell' = true := by first | exact Go.Proofs.E.one_u8 | (simp [Value.oneCell']; done) | (intro u hu; simp at hu; rcases hu with rfl | rfl | rfl <;> rfl)) :
    wpList P ops Q ({ dst := none, op := .store t x y, type := T, pos := pos, after := after, guard := none } :: rest) (fr l) w :=
  stbw (hM.blk hp) hx hy hln hf h1 fun w' hB hc _ => h w' ((hM.pick hp).set hB hc)
/-- An element's address, in what was there when the walk began. -/
theorem kix {α : Type} {t : Ty α} {d : Nat} {x y : Operand} {s e : TypeId} {v : Value} {xs : List α} {k : IntKind} {i : Int} {z : Value} {m by_ : Nat} [hu : Und P s (.slice e)] [hi : Inf P e z m by_]
    (hR : t.Rd O w0 v xs) (h : ∀ b o a, xs[i.toNat]? = some a → t.At O w0 b o a → wpList P ops Q rest (fr (l.set d (.pointer (some ⟨b, o, none⟩)))) w)
    (hx : ev l x = v := by exact rfl) (hy : ev l y = .int k i := by exact rfl) (hn : t.n = m := by exact rfl) (h0 : 0 ≤ i := by first | omega | simp) (h1 : i.toNat < xs.length := by first | omega | simp | assumption) :
    wpList P ops Q ({ dst := some d, op := .indexAddr s x y, type := T, pos := pos, after := after, guard := none } :: rest) (fr l) w := by
  subst hn
  obtain ⟨hl, A, cap, rfl, hcap, hA⟩ := hR
  obtain ⟨b, o, rfl, hb, hS, he⟩ := hA (fun h => by subst h; simp at h1)
  exact wl_val (r_indexAddr hx hy h0 (by omega)) (h _ _ _ (List.getElem?_eq_getElem h1) (he _ _ (List.getElem?_eq_getElem h1)))
theorem kat {α : Type} {en : En α} {d : Nat} {x : Operand} {E : TypeId} {b o : Nat} {z : α} {v : Value} [hr : One P E] (hM : Mem O w0 w L) (hA : (Ty.enc en).At O w0 b o z) (h : wpList P ops Q rest (fr l') w)
    (hx : ev l x = .pointer (some ⟨b, o, none⟩) := by exact rfl) (hv : en.f z = [v] := by exact rfl) (hl : l.set d v = l' := by first | (dsimp only [List.set, Go.Proofs.E.set1, Go.Proofs.E.ev, Go.Proofs.E.nth]; done) | exact rfl) :
    wpList P ops Q ({ dst := some d, op := .load E x, type := T, pos := pos, after := after, guard := none } :: rest) (fr l) w := by subst hl; exact wl_loade_one hx (hA.mv hM.ch (fun _ _ h => h)) hv h
theorem katr {α : Type} {en : En α} {d : Nat} {x : Operand} {E : TypeId} {b o : Nat} {z : α} {zv : Value} {m by_ : Nat} [hr : Row P E] [hi : Inf P E zv m by_] (hM : Mem O w0 w L) (hA : (Ty.enc en).At O w0 b o z) (h : wpList P ops Q rest (fr l') w)
    (hx : ev l x = .pointer (some ⟨b, o, none⟩) := by exact rfl) (hm : en.n = m := by exact rfl) (hl : l.set d (.agg (en.f z).toArray) = l' := by first | (dsimp only [List.set, Go.Proofs.E.set1, Go.Proofs.E.ev, Go.Proofs.E.nth]; done) | exact rfl) :
    wpList P ops Q ({ dst := some d, op := .load E x, type := T, pos := pos, after := after, guard := none } :: rest) (fr l) w := by subst hl; exact wl_loade_row hx (hA.mv hM.ch (fun _ _ h => h)) hm h
/-- append(v, a). -/
theorem kpu {α : Type} {en : En α} {n by_ : Nat} {d d1 : Nat} {x y : Operand} {t e : TypeId} {z : Value} [hu : Und P t (.slice e)] [hi : Inf P e z n by_]
    {T' : TypeId} {pos' : String} {after' : Array Edge} {v xv : Value} {xs : List α} (a : α) (hM : Mem O w0 w L)
    (h : ∀ u v' w', Mem O w0 w' (.row en e v' (xs ++ [a]) :: L') → wpList P ops Q rest (fr ((l.set d1 u).set d v')) w')
    (hx : ev l x = xv := by exact rfl) (hy : ∀ u, ev (l.set d1 u) y = v := by exact fun _ => rfl) (hp : Pick L (.row en e v xs) L' := by (repeat (first | exact Go.Proofs.E.Pick.here | apply Go.Proofs.E.Pick.there))) (hd : ∀ u, ev (l.set d1 u) (.tmp d1) = u := by exact fun _ => rfl) (ha : xv.cells.toList = en.f a := by exact rfl)
    (hm : en.n = n := by exact rfl) (hz : z.cells.size = n := by exact rfl) (hn : 0 < n := by decide) (hn2 : n ≤ 16777216 := by decide)
    (hb : (xs.length + 1) * by_ ≤ 140737488355328 := by omega) (h63 : xs.length + 1 ≤ 281474976710656 := by omega) :
    wpList P ops Q ({ dst := some d1, op := .buildSlice t 1 #[(0, x)], type := T', pos := pos', after := after', guard := none } :: { dst := some d, op := .call { callee := .builtin .append, args := #[y, .tmp d1], argTypes := #[t, t] }, type := T, pos := pos, after := after, guard := none } :: rest) (fr l) w :=
  wl_push (base := 0) hm hz hn hn2 hx hy hd ha (hM.pick hp).head (Nat.zero_le _) hb h63 fun u v' w' hO hc hat => h u v' w' ((hM.pick hp).put hc (fun k hk => show v.ownBlock = some k by simpa using hk) hO (fun k hk => by
    rcases hat with e | ⟨q, e, hq⟩
    · exact .inl (e.symm.trans hk)
    · have : q = k := Option.some.inj (e.symm.trans hk)
      exact .inr (this ▸ hq)))
/-- append(v, ys...). -/
theorem kap {α : Type} {en : En α} {n by_ : Nat} {d : Nat} {x y : Operand} {t e : TypeId} {z : Value} [hu : Und P t (.slice e)] [hi : Inf P e z n by_]
    {v yv : Value} {xs ys : List α} (hM : Mem O w0 w L) (hR : (Ty.enc en).Rd [] w yv ys)
    (h : ∀ v' w', Mem O w0 w' (.row en e v' (xs ++ ys) :: L') → wpList P ops Q rest (fr (l.set d v')) w')
    (hx : ev l x = v := by exact rfl) (hp : Pick L (.row en e v xs) L' := by (repeat (first | exact Go.Proofs.E.Pick.here | apply Go.Proofs.E.Pick.there))) (hy : ev l y = yv := by exact rfl)
    (hm : en.n = n := by exact rfl) (hz : z.cells.size = n := by exact rfl) (hn : 0 < n := by decide)
    (hb : (xs.length + ys.length) * by_ ≤ 140737488355328 := by omega) (h63 : xs.length + ys.length ≤ 281474976710656 := by omega) :
    wpList P ops Q ({ dst := some d, op := .call { callee := .builtin .append, args := #[x, y], argTypes := #[t, t] }, type := T, pos := pos, after := after, guard := none } :: rest) (fr l) w := by
  have hO := (hM.pick hp).head
  by_cases hne : ys = []
  · subst hne
    obtain ⟨A, c, rfl⟩ := hR.form
    refine wl_append0 hx hO hy (h v w ?_)
    rw [List.append_nil]
    exact hM.pick hp
  · obtain ⟨b, o, cap, rfl, hb1, hS, hrow⟩ := rowE hR hne
    exact wl_append (en := en) hm hz hn hx hO (Nat.zero_le _) hy hrow hb h63 fun v' w' hO' hc hat => h v' w' ((hM.pick hp).put hc (fun k hk => show v.ownBlock = some k by simpa using hk) hO' (fun k hk => by
      rcases hat with e | e
      · exact .inl (e.symm.trans hk)
      · have : w.heap.size = k := Option.some.inj (e.symm.trans hk)
        exact .inr (this ▸ Nat.le_refl _)))
/-- A literal. -/
theorem kbs {α : Type} {en : En α} {d n : Nat} {t e : TypeId} {parts : List (Nat × Operand)} {vs : List Value} {z : Value} {m by_ : Nat} [hu : Und P t (.slice e)] [hi : Inf P e z m by_] (xs : List α) (hM : Mem O w0 w L)
    (h : ∀ w' b, Mem O w0 w' (.row en e (.slice (some ⟨b, 0, none⟩) n n) xs :: L) → wpList P ops Q rest (fr (l.set d (.slice (some ⟨b, 0, none⟩) n n))) w')
    (hp : (parts.map fun x => (x.1, ev l x.2)) = (vs.zipIdx 0).map fun x => (x.2, x.1) := by exact rfl) (hn : vs.length = n := by exact rfl) (hxs : vs.flatMap (fun v => v.cells.toList) = xs.flatMap en.f := by first | exact rfl | simp) (hm : ∀ v ∈ vs, v.cells.size = m := by first | (simp [Value.cells]; done) | (simp; done)) (hl : xs.length = n := by exact rfl) (hsmall : n * m ≤ 16777216 := by decide) (h63 : n ≤ 281474976710656 := by decide) :
    wpList P ops Q ({ dst := some d, op := .buildSlice t n parts.toArray, type := T, pos := pos, after := after, guard := none } :: rest) (fr l) w :=
  wl_buildSlice hp hn hm hsmall fun w' b hN => h w' b (hM.got hN.ch (Own.of_new hN hxs (Nat.le_refl _) (by rw [hl]; exact h63) hl))
/-- A call that hands back one value, and makes new memory at most. -/
theorem kca {d : Option Nat} {f : FuncId} {fn : Func} {args : List Operand} {tys : Array TypeId} {vs : List Value} {X : Value} (hM : Mem O w0 w L)
    (hc : Calls P f vs.toArray w (Ret fun u w' => u = X ∧ Ch [] w w')) (h : ∀ w', Mem O w0 w' L → wpList P ops Q rest (fr l') w') [hf : Fun P f fn]
    (ha : args.map (ev l) = vs := by first | (dsimp only [List.map, List.set, Go.Proofs.E.set1, Go.Proofs.E.ev, Go.Proofs.E.nth]; done) | exact rfl)
    (hl : set1 l d X = l' := by first | (dsimp only [List.set, Go.Proofs.E.set1, Go.Proofs.E.ev, Go.Proofs.E.nth]; done) | exact rfl) :
    wpList P ops Q ({ dst := d, op := .call { callee := .value (.func f), args := args.toArray, argTypes := tys }, type := T, pos := pos, after := after, guard := none } :: rest) (fr l) w := by
  subst hl
  exact wl_callf ha hc fun v w' hv => hv.1 ▸ h w' (hM.call hv.2)
/-- A function that is a value. -/
theorem r_calld {x : Operand} {f : FuncId} {fn : Func} {args : List Operand} {tys : Array TypeId} {lb : Array Value} [hf : Fun P f fn] (hx : ev l x = .func (.func f) #[] lb) :
    (exec (ev l) (.call { callee := .value x, args := args.toArray, argTypes := tys }) T).run P w = .ok (.enter f ((args.map (ev l)).toArray ++ lb)) w := by
  have h1 := hf.body
  have h2 := hf.name
  cases h : fn.body with
  | none => rw [h] at h1; cases h1
  | some c => simp [exec, execOp, resolve, Deferred.ofValue, hx, invoke, callFunc, program, Sem.run, hf.out, h, by simpa using h2]
theorem kcd {d : Option Nat} {x : Operand} {f : FuncId} {fn : Func} {args : List Operand} {tys : Array TypeId} {lb : Array Value} {vs : List Value} {R : Value → World → Prop} [hf : Fun P f fn]
    (hc : Calls P f (vs.toArray ++ lb) w (Ret R)) (h : ∀ v w', R v w' → wpList P ops Q rest (fr (set1 l d v)) w') (hx : ev l x = .func (.func f) #[] lb := by exact rfl)
    (ha : args.map (ev l) = vs := by first | (dsimp only [List.map, List.set, Go.Proofs.E.set1, Go.Proofs.E.ev, Go.Proofs.E.nth]; done) | exact rfl) :
    wpList P ops Q ({ dst := d, op := .call { callee := .value x, args := args.toArray, argTypes := tys }, type := T, pos := pos, after := after, guard := none } :: rest) (fr l) w := by
  subst ha
  exact wl_call (r_calld hx) hc h
/-- One that leaves the world alone. -/
theorem kcs {d : Option Nat} {f : FuncId} {fn : Func} {args : List Operand} {tys : Array TypeId} {vs : List Value} {X : Value}
    (hc : Calls P f vs.toArray w (Ret fun u w' => u = X ∧ w' = w)) (h : wpList P ops Q rest (fr l') w) [hf : Fun P f fn]
    (ha : args.map (ev l) = vs := by first | (dsimp only [List.map, List.set, Go.Proofs.E.set1, Go.Proofs.E.ev, Go.Proofs.E.nth]; done) | exact rfl)
    (hl : set1 l d X = l' := by first | (dsimp only [List.set, Go.Proofs.E.set1, Go.Proofs.E.ev, Go.Proofs.E.nth]; done) | exact rfl) :
    wpList P ops Q ({ dst := d, op := .call { callee := .value (.func f), args := args.toArray, argTypes := tys }, type := T, pos := pos, after := after, guard := none } :: rest) (fr l) w := by
  subst hl
  exact wl_callf ha hc fun v w' hv => hv.1 ▸ hv.2 ▸ h
/-- One that hands back a new row. -/
theorem kcr {α : Type} {en : En α} {E : TypeId} {xs : List α} {d : Option Nat} {f : FuncId} {fn : Func} {args : List Operand} {tys : Array TypeId} {vs : List Value} (hM : Mem O w0 w L)
    (hc : Calls P f vs.toArray w (Ret fun v w' => Ch [] w w' ∧ Own en w' w.heap.size E v xs)) (h : ∀ v w', Mem O w0 w' (.row en E v xs :: L) → wpList P ops Q rest (fr (set1 l d v)) w') [hf : Fun P f fn]
    (ha : args.map (ev l) = vs := by first | (dsimp only [List.map, List.set, Go.Proofs.E.set1, Go.Proofs.E.ev, Go.Proofs.E.nth]; done) | exact rfl) :
    wpList P ops Q ({ dst := d, op := .call { callee := .value (.func f), args := args.toArray, argTypes := tys }, type := T, pos := pos, after := after, guard := none } :: rest) (fr l) w :=
  wl_callf ha hc fun v w' hv => h v w' (hM.got hv.1 hv.2)
end
/-! ### The ways out -/
section
variable {P : Program} {l : List Value} {O : List Nat} {w0 w : World} {L L' : List As} {fn : Func} {R : Value → World → Prop}
end
theorem Ty.Rd.off {α : Type} {t : Ty α} {S : List Nat} {w : World} {v : Value} {xs : List α} (h : t.Rd S w v xs) : t.Rd [] w v xs := h.mv (Ch.refl [] w) (fun _ _ h => by simp at h)
theorem Mem.cellSet {O : List Nat} {w0 w w' : World} {L L' : List As} {b : Nat} {cs cs' : List Value} {E : TypeId} (h : Mem O w0 w L) (hB : Blk w' b cs' E) (hc : Ch [b] w w') (hp : Pick L (.cell b cs E) L' := by (repeat (first | exact Go.Proofs.E.Pick.here | apply Go.Proofs.E.Pick.there))) : Mem O w0 w' (.cell b cs' E :: L') := (h.pick hp).set hB hc
theorem Mem.nin {O : List Nat} {w0 w : World} {L L' L'' : List As} {b c : Nat} {cs ds : List Value} {E F : TypeId} (h : Mem O w0 w L) (hp : Pick L (.cell b cs E) L') (hq : Pick L' (.cell c ds F) L'') : c ∉ [b] := by
  have h1 := List.pairwise_cons.1 (h.pick hp).dis
  have h2 := h1.1 (.cell c ds F) (hq.perm.mem_iff.2 (by simp)) b rfl
  simp only [List.mem_singleton]
  exact fun e => h2 (show b = c from e.symm)
/-! ### Regions that draw their order -/
section
variable {P : Program} {ops : Array Oper} {Q : Exit → Act → World → Prop} {rest : List Oper} {l l' : List Value} {O : List Nat} {w0 w : World} {L L' : List As} {k zz : Nat} {listed : Array Bool} {T : TypeId} {pos : String} {after : Array Edge}
theorem kdr {id : Nat} {os : List Oper} (hM : Mem O w0 w L) (hm : P.follows .mixedOrders = true) (hB : Region.lexB .any os.toArray = true)
    (h : ∀ w', Mem O w0 w' L → wpLexG P os.toArray (Ch []) (NoP Q) os.toArray.size os 0 (Array.replicate os.length false) (fr l) w') : (Code.region id os.toArray true).wp P Q (fr l) w :=
  c_draw [] hm hB fun w' hc _ => h w' (hM.call hc)
/-- Operation zz may write. -/
theorem kdrl {id : Nat} {os : List Oper} (zz : Nat) (hM : Mem O w0 w L) (hm : P.follows .mixedOrders = true) (hB : Region.lexB .any os.toArray = true) (hL : lateB os.toArray zz = true)
    (h : ∀ w', Mem O w0 w' L → wpLexG P os.toArray (Ch []) (NoP Q) zz os 0 (Array.replicate os.length false) (fr l) w') : (Code.region id os.toArray true).wp P Q (fr l) w :=
  c_drawl zz [] hm hB hL fun w' hc _ => h w' (hM.call hc)
theorem is_ldg {d : Nat} {E : TypeId} {x : Operand} (h : wpLexG P ops (Ch []) Q zz ({ dst := some d, op := .load E x, type := T, pos := pos, after := after, guard := none } :: rest) k listed (fr l) w) : wpLexG P ops (Ch []) Q zz ({ dst := some d, op := .load E x, type := T, pos := pos, after := after, guard := none } :: rest) k listed (fr l) w := h
theorem kldg {d : Nat} {x : Operand} {E E' : TypeId} {b o : Nat} {cs : List Value} {v : Value} [hr : One P E] (hM : Mem O w0 w L) (h : wpLexG P ops (Ch []) Q zz rest (k + 1) (listed.setIfInBounds k true) (fr l') w)
    (hx : ev l x = .pointer (some ⟨b, o, none⟩) := by exact rfl) (hp : Pick L (.cell b cs E') L' := by (repeat (first | exact Go.Proofs.E.Pick.here | apply Go.Proofs.E.Pick.there))) (hv : cs[o]? = some v := by exact rfl)
    (hl : l.set d v = l' := by first | (dsimp only [List.set, Go.Proofs.E.set1, Go.Proofs.E.ev, Go.Proofs.E.nth]; done) | exact rfl) :
    wpLexG P ops (Ch []) Q zz ({ dst := some d, op := .load E x, type := T, pos := pos, after := after, guard := none } :: rest) k listed (fr l) w := by subst hl; exact ldbg (hM.blk hp) (by simp) hx hv h
theorem kldwg {d : Nat} {x : Operand} {E E' : TypeId} {b n by_ : Nat} {cs : List Value} {z : Value} [hr : Row P E] [hi : Inf P E z n by_] (hM : Mem O w0 w L) (h : wpLexG P ops (Ch []) Q zz rest (k + 1) (listed.setIfInBounds k true) (fr l') w)
    (hx : ev l x = .pointer (some ⟨b, 0, none⟩) := by exact rfl) (hp : Pick L (.cell b cs E') L' := by (repeat (first | exact Go.Proofs.E.Pick.here | apply Go.Proofs.E.Pick.there))) (hn : cs.length = n := by (first | exact rfl | (simp; done) | (simp only [List.length_map]; exact Subtype.property (p := fun a : List UInt8 => a.length = 32) _)))
    (hl : l.set d (.agg cs.toArray) = l' := by first | (dsimp only [List.set, Go.Proofs.E.set1, Go.Proofs.E.ev, Go.Proofs.E.nth]; done) | exact rfl) :
    wpLexG P ops (Ch []) Q zz ({ dst := some d, op := .load E x, type := T, pos := pos, after := after, guard := none } :: rest) k listed (fr l) w := by
  subst hl
  exact ldbrg (hM.blk hp) (by simp) hx (ds := cs) (by rw [List.drop_zero, List.take_of_length_le (by omega)]) hn h
theorem kixg {α : Type} {t : Ty α} {d : Nat} {x y : Operand} {s e : TypeId} {v : Value} {xs : List α} {q : IntKind} {i : Int} {z : Value} {m by_ : Nat} [hu : Und P s (.slice e)] [hi : Inf P e z m by_]
    (hR : t.Rd O w0 v xs) (h : ∀ b o a, xs[i.toNat]? = some a → t.At O w0 b o a → wpLexG P ops (Ch []) Q zz rest (k + 1) (listed.setIfInBounds k true) (fr (l.set d (.pointer (some ⟨b, o, none⟩)))) w)
    (hx : ev l x = v := by exact rfl) (hy : ev l y = .int q i := by exact rfl) (hn : t.n = m := by exact rfl) (h0 : 0 ≤ i := by first | omega | simp) (h1 : i.toNat < xs.length := by first | omega | simp | assumption) :
    wpLexG P ops (Ch []) Q zz ({ dst := some d, op := .indexAddr s x y, type := T, pos := pos, after := after, guard := none } :: rest) k listed (fr l) w := by
  subst hn
  obtain ⟨hl, A, cap, rfl, hcap, hA⟩ := hR
  obtain ⟨b, o, rfl, hb, hS, he⟩ := hA (fun h => by subst h; simp at h1)
  exact wg_val (fun w1 _ => r_indexAddr hx hy h0 (by omega)) (h _ _ _ (List.getElem?_eq_getElem h1) (he _ _ (List.getElem?_eq_getElem h1)))
theorem katg {α : Type} {en : En α} {d : Nat} {x : Operand} {E : TypeId} {b o : Nat} {z : α} {v : Value} [hr : One P E] (hM : Mem O w0 w L) (hA : (Ty.enc en).At O w0 b o z) (h : wpLexG P ops (Ch []) Q zz rest (k + 1) (listed.setIfInBounds k true) (fr l') w)
    (hx : ev l x = .pointer (some ⟨b, o, none⟩) := by exact rfl) (hv : en.f z = [v] := by exact rfl) (hl : l.set d v = l' := by first | (dsimp only [List.set, Go.Proofs.E.set1, Go.Proofs.E.ev, Go.Proofs.E.nth]; done) | exact rfl) :
    wpLexG P ops (Ch []) Q zz ({ dst := some d, op := .load E x, type := T, pos := pos, after := after, guard := none } :: rest) k listed (fr l) w := by subst hl; exact wg_load_one hx ((hA.mv hM.ch (fun _ _ h => h)).mv (Ch.refl [] w) (fun _ _ h => by simp at h)) hv h
theorem katrg {α : Type} {en : En α} {d : Nat} {x : Operand} {E : TypeId} {b o : Nat} {z : α} {zv : Value} {m by_ : Nat} [hr : Row P E] [hi : Inf P E zv m by_] (hM : Mem O w0 w L) (hA : (Ty.enc en).At O w0 b o z) (h : wpLexG P ops (Ch []) Q zz rest (k + 1) (listed.setIfInBounds k true) (fr l') w)
    (hx : ev l x = .pointer (some ⟨b, o, none⟩) := by exact rfl) (hm : en.n = m := by exact rfl) (hl : l.set d (.agg (en.f z).toArray) = l' := by first | (dsimp only [List.set, Go.Proofs.E.set1, Go.Proofs.E.ev, Go.Proofs.E.nth]; done) | exact rfl) :
    wpLexG P ops (Ch []) Q zz ({ dst := some d, op := .load E x, type := T, pos := pos, after := after, guard := none } :: rest) k listed (fr l) w := by subst hl; exact wg_load_row hx ((hA.mv hM.ch (fun _ _ h => h)).mv (Ch.refl [] w) (fun _ _ h => by simp at h)) hm h
/-- A call that hands back one value. -/
theorem kcag {d : Option Nat} {f : FuncId} {fn : Func} {args : List Operand} {tys : Array TypeId} {vs : List Value} {v : Value} (hM : Mem O w0 w L)
    (hc : ∀ w1, Mem O w0 w1 L → Calls P f vs.toArray w1 (Ret fun u w2 => u = v ∧ Ch [] w1 w2))
    (h : wpLexG P ops (Ch []) Q zz rest (k + 1) (listed.setIfInBounds k true) (fr l') w) [hf : Fun P f fn]
    (ha : args.map (ev l) = vs := by first | (dsimp only [List.map, List.set, Go.Proofs.E.set1, Go.Proofs.E.ev, Go.Proofs.E.nth]; done) | exact rfl)
    (hl : set1 l d v = l' := by first | (dsimp only [List.set, Go.Proofs.E.set1, Go.Proofs.E.ev, Go.Proofs.E.nth]; done) | exact rfl) :
    wpLexG P ops (Ch []) Q zz ({ dst := d, op := .call { callee := .value (.func f), args := args.toArray, argTypes := tys }, type := T, pos := pos, after := after, guard := none } :: rest) k listed (fr l) w := by
  subst hl
  exact wg_call ha (fun w1 h1 => hc w1 (hM.call h1)) h
end
/-- A value built of parts, its cells by reckoning. -/
theorem r_bld {P : Program} {l : List Value} {w : World} {T t : TypeId} {parts : List (Nat × Operand)} {vs : List (Nat × Value)} {cells : Array Value} (hp : (parts.map fun x => (x.1, ev l x.2)) = vs) (h : P.built t vs = some cells) :
    (exec (ev l) (.build t parts.toArray) T).run P w = .ok (.value (.agg cells)) w := by
  subst hp
  have := run_build w t (parts.map fun x => (x.1, ev l x.2)).toArray cells (by simpa using h)
  simp only [exec, execOp, List.map_toArray, Sem.run_bind, this, Result.andThen_ok]
  rfl
section
variable {P : Program} {l : List Value} {w : World} {T : TypeId}
theorem r_eqbb {x y : Operand} {t u : TypeId} {a b : Bool} [hU : Und P t .bool] (hx : ev l x = .bool a) (hy : ev l y = .bool b) : (exec (ev l) (.binOp .eql t x y u) T).run P w = .ok (.value (.bool (a == b))) w := by
  simp [exec, execOp, hx, hy, eqGuard, run_eql_bool w t a b hU.out]
end
/-! ### Arrays of numbers compared -/
section
variable {P : Program} {l : List Value} {w : World} {T : TypeId}
end
/-! ### Whole walks in one word -/
theorem ks {G H : Prop} (h : H) (s : Hd H → G := by
  intro h
  (with_reducible apply is_sto)
  first | exact kst hM h.out | exact kstw hM h.out | fail) : G := s ⟨h⟩
end Go.Proofs.E

/- A range over a function with two variables; what comes behind it; results in three cells. -/
import Derived.Test.YtnkkeehoejmcnaaYld
set_option linter.unusedVariables false
set_option linter.unusedSimpArgs false
namespace Go.Proofs.E
open Go Go.RowKit
theorem c_rangeM2 {α : Type} {P : Program} {l : List Value} {O : List Nat} {w0 w : World} {Q : Exit → Act → World → Prop} {g p1 p2 : Nat} {assign body : Code} {gf : Nat} {lb : Array Value} {e1 e2 : α → Value} {L : List α} {X0 La : List As} (hM : Mem O w0 w (La ++ X0)) (hg : ev l (.tmp g) = .func (.func gf) #[] lb)
    (eg : ∀ args w, (callFunc gf args).run P w = .ok (.enter gf args) w) (hseq : SeqM P 9 gf lb (fun x => #[e1 x, e2 x]) L O w0 X0)
    (Inv : List α → List As → Prop) (h0 : Inv [] La) (Stp : Code → List α → List As → Prop) (Ax : List α → α → List Value → List As → Prop)
    (hassign : ∀ (r : Nat) (pre : List α) (x : α) (W : World) (La X : List As) (K : Act → World → Prop), (pre ++ [x]) <+: L → Inv pre La → Mem O w0 W (La ++ X) → (∀ l' W' La2, Ax pre x l' La2 → Mem O w0 W' (La2 ++ X) → K (fr l') W') →
      assign.wpIn (RF r) 8 P (Exit.then K (fun _ _ _ => False)) (fr ((l.set p1 (e1 x)).set p2 (e2 x))) W)
    (hbody : ∀ (r : Nat) (pre : List α) (x : α) (l' : List Value) (W : World) (La X : List As), (pre ++ [x]) <+: L → Ax pre x l' La → Mem O w0 W (La ++ X) → body.wpIn (RF r) 8 P (RoundM O w0 X (Inv (pre ++ [x])) (fun c => Stp c (pre ++ [x]))) (fr l') W)
    (hdone : ∀ (D : Nat) (W : World) (La : List As), Inv L La → Mem O w0 W (.obj D (.deferred (some [])) :: (La ++ X0)) → Q .normal (frd l [{ target := .collected D, args := #[] }]) W)
    (hstop : ∀ (D : Nat) (c : Code) (pre : List α) (W : World) (La : List As), Stp c pre La → Mem O w0 W (.obj D (.deferred (some [])) :: (La ++ X0)) → c.wpIn Fence.wide 10 P Q (frd l [{ target := .collected D, args := #[] }]) W) :
    (Code.rangeFunc (.tmp g) #[p1, p2] assign body).wp P Q (fr l) w := by
  refine c_rangeM hM hg eg hseq (fun _ => rfl) Inv h0 Stp Ax ?_ hbody hdone hstop
  intro r pre x W La X K hp hi hMx hK
  have he : (((#[p1, p2] : Array Nat).zip #[e1 x, e2 x]).foldl (fun t (p : Nat × Value) => t.setIfInBounds p.1 p.2) (fr l).tmps) = ((l.set p1 (e1 x)).set p2 (e2 x)).toArray := by
    simp [fr]
  show assign.wpIn _ _ _ _ { tmps := ((#[p1, p2] : Array Nat).zip #[e1 x, e2 x]).foldl (fun t (p : Nat × Value) => t.setIfInBounds p.1 p.2) (fr l).tmps, defers := [] } W
  rw [he]
  exact hassign r pre x W La X K hp hi hMx hK
section
variable {P : Program} {Q : Exit → Act → World → Prop} {l : List Value} {w w0 : World} {O : List Nat} {L L1 L2 L3 : List As} {ops : Array Oper} {ds : List Deferred}
theorem c_regd {id : Nat} {os : List Oper} (hs : os.all (fun o => simpleOp o.op) = true) (hno : ¬ LetsOut Q) (h : wpList P os.toArray (Sh ds Q) os (fr l) w) : (Code.region id os.toArray false).wp P Q (frd l ds) w :=
  wp_region_lit (list_defers os (fr l) w hs hno h)
theorem wl_nild (h : Q .normal (frd l ds) w) : wpList P ops (Sh ds Q) [] (fr l) w := wl_nil h
theorem noOut_blk {id : Nat} (h : ¬ LetsOut Q) : ¬ LetsOut (Exit.inBlock id Q) := fun ⟨a, w, x⟩ => h ⟨a, w, x⟩
variable {R : Value → World → Prop} {fn : Func}
theorem koc3 {t u s b1 b2 b3 : Nat} {E1 E2 E3 F1 F2 F3 : TypeId} {v1 v2 v3 : Value} [h1 : One P E1] [h2 : One P E2] [h3 : One P E3] (hM : Mem O w0 w L) (hf : fn.results = #[.cell t E1, .cell u E2, .cell s E3]) (h : R (.tuple #[v1, v2, v3]) w)
    (hx1 : ev l (.tmp t) = .pointer (some ⟨b1, 0, none⟩) := by exact rfl) (hx2 : ev l (.tmp u) = .pointer (some ⟨b2, 0, none⟩) := by exact rfl) (hx3 : ev l (.tmp s) = .pointer (some ⟨b3, 0, none⟩) := by exact rfl)
    (hp1 : Pick L (.cell b1 [v1] F1) L1 := by (repeat (first | exact Go.Proofs.E.Pick.here | apply Go.Proofs.E.Pick.there))) (hp2 : Pick L (.cell b2 [v2] F2) L2 := by (repeat (first | exact Go.Proofs.E.Pick.here | apply Go.Proofs.E.Pick.there))) (hp3 : Pick L (.cell b3 [v3] F3) L3 := by (repeat (first | exact Go.Proofs.E.Pick.here | apply Go.Proofs.E.Pick.there))) :
    bodyPost P fn (Ret R) .ret (fr l) w := by
  refine ⟨rfl, .tuple #[v1, v2, v3], ?_, _, rfl, h⟩
  have e1 : l[t]?.getD undef = .pointer (some ⟨b1, 0, none⟩) := by simpa [Array.getD_eq_getD_getElem?] using (ev_tmp l t).trans hx1
  have e2 : l[u]?.getD undef = .pointer (some ⟨b2, 0, none⟩) := by simpa [Array.getD_eq_getD_getElem?] using (ev_tmp l u).trans hx2
  have e3 : l[s]?.getD undef = .pointer (some ⟨b3, 0, none⟩) := by simpa [Array.getD_eq_getD_getElem?] using (ev_tmp l s).trans hx3
  have c1 := (hM.blk hp1).cell (o := 0) (v := v1) rfl
  have c2 := (hM.blk hp2).cell (o := 0) (v := v2) rfl
  have c3 := (hM.blk hp3).cell (o := 0) (v := v3) rfl
  simp [results, hf, fr, e1, e2, e3, asAddr, run_loadVar_one c1, run_loadVar_one c2, run_loadVar_one c3]
end
end Go.Proofs.E

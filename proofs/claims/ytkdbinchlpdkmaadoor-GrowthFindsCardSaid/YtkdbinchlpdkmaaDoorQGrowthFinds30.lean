/- What law 30's arguments read as: claims, facts. -/
import Derived.Test.YtkdbinchlpdkmaaDoorQGrowthFinds10
import Derived.Test.YtkdbinchlpdkmaaDoorQGrowthFinds29
set_option linter.unusedVariables false
set_option linter.unusedSimpArgs false
namespace Go.Proofs.E
open Go Go.RowKit
theorem three_of {α : Type} {l : List α} (h : l.length = 3) : ∃ a b c, l = [a, b, c] := by
  match l, h with
  | [a, b, c], _ => exact ⟨a, b, c, rfl⟩
end Go.Proofs.E
namespace Go.Proofs.YtkdbinchlpdkmaaDoor
open Go Go.RowKit Go.Proofs.E
section
variable {H : Type} {enc : TypeId × Value → H} {W : World}
abbrev tCl : Ty (List UInt8 × List Hs) := Ty.prod (Ty.sl tU8) (Ty.sl (Ty.enc eH))
theorem rw_claim : RW enc W 58 tCl (fun x => x.1.length ≤ reachBytes ∧ x.2.length * 32 ≤ reachBytes) :=
  (readsW_struct (t := tCl) Tryd.underlying58 (.cons rfl rw_bytes (.one rfl rw_hashes))).map (fun a cs h q => ⟨a, h, q.1, q.2⟩)
theorem tCl_out {w : World} {x : List UInt8 × List Hs} {cs : List Value} (h : tCl.R [] w x cs) : ∃ ul up : SlV, cs = [slv ul, slv up] ∧ tU8.Rd [] w (slv ul) x.1 ∧ (Ty.enc eH).Rd [] w (slv up) x.2 := by
  obtain ⟨c, d, rfl, ⟨v, h1, hR⟩, v2, h2, hR2⟩ := h
  obtain ⟨ul, rfl⟩ := hR.slv
  obtain ⟨up, rfl⟩ := hR2.slv
  exact ⟨ul, up, by rw [h1, h2]; rfl, hR, hR2⟩
theorem cl2_out {fuel : Nat} {cs : List Value} {x : Go.DataW H × List Go.MemPlace} (h : Go.DataW.trod enc Tryd.prog W 0 (fun _ => true) true fuel 79 cs = some x) (hw : ∀ n ∈ x.1.weights Tryd.prog 79, n ≤ Go.reachBytes) :
    ∃ (a b : List UInt8 × List Hs) (ula upa ulb upb : SlV), cs = [slv ula, slv upa, slv ulb, slv upb] ∧ tU8.Rd [] W (slv ula) a.1 ∧ (Ty.enc eH).Rd [] W (slv upa) a.2 ∧ tU8.Rd [] W (slv ulb) b.1 ∧ (Ty.enc eH).Rd [] W (slv upb) b.2 := by
  obtain ⟨a, b, hl, ⟨ha, qa⟩, hb, qb⟩ := readsW_arr2 (m := 2) (E := 79) (e := 58) rfl rw_claim h hw
  obtain ⟨ula, upa, h1, h2, h3⟩ := tCl_out ha
  obtain ⟨ulb, upb, h4, h5, h6⟩ := tCl_out hb
  refine ⟨a, b, ula, upa, ulb, upb, ?_, h2, h3, h5, h6⟩
  have e : cs = cs.take 2 ++ (cs.drop 2).take 2 := by
    rw [List.take_of_length_le (l := cs.drop 2) (by rw [List.length_drop]; omega), List.take_append_drop]
  rw [e, h1, h4]
  rfl
end
end Go.Proofs.YtkdbinchlpdkmaaDoor

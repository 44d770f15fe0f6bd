/- A tree over leaves: plain words. -/
import Derived.Test.YtnkkeehoejmcnaaDoorSplitN
import Derived.Test.YtnkkeehoejmcnaaDoorRef
set_option linter.unusedVariables false
set_option linter.unusedSimpArgs false
namespace Go.Proofs.YtnkkeehoejmcnaaDoor
open Go Go.RowKit Go.Proofs.E

section
variable {α : Type} (nd : α → α → α) (em : α)
variable {nd em}
end
/-! ### Hashes -/
abbrev Hs := { a : List UInt8 // a.length = 32 }
abbrev eH : En Hs := { f := fun a => a.1.map u8v, n := 32, hl := fun a => by rw [List.length_map, a.2], h1 := fun a => one_u8 }
def nodeH (a b : Hs) : Hs := ⟨nodeOf a.1 b.1, nodeOf_len _ _⟩
end Go.Proofs.YtnkkeehoejmcnaaDoor

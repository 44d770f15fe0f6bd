/- Walks of SHA-256: turning words, the words of a block.
   Walks of SHA-256: a block.
   Walks of SHA-256: bytes more.
   Walks of SHA-256: from the first state to the sum.
   Walks: the sum of bytes, of a kind, of two nodes.
   Walks: the reference's SHA-256: a block.
   Walks: the reference's padding, sums, nodes. -/
import Derived.Test.YtoimhmphhffelaaDoorQQueryBack12
import Derived.Test.YtoimhmphhffelaaDoorQQueryBack03
set_option linter.unusedVariables false
set_option linter.unusedSimpArgs false
namespace Go.Proofs.YtoimhmphhffelaaDoor
open Go Go.RowKit Go.Proofs.E
attribute [local irreducible] Go.wpList Go.Code.wp Go.Proofs.E.exec Go.Proofs.E.wpLexG

/-! ### Plain words -/
/-! ### A block's words -/
end Go.Proofs.YtoimhmphhffelaaDoor
set_option linter.unusedVariables false
set_option linter.unusedSimpArgs false
namespace Go.Proofs.YtoimhmphhffelaaDoor
open Go Go.RowKit Go.Proofs.E
attribute [local irreducible] Go.wpList Go.Code.wp Go.Proofs.E.exec Go.Proofs.E.wpLexG

structure S8 where (a b c d e f g h : UInt32)
def S8.l (s : S8) : List UInt32 := [s.a, s.b, s.c, s.d, s.e, s.f, s.g, s.h]
def S1 (e : UInt32) : UInt32 := (rotr e 6 ^^^ rotr e 11) ^^^ rotr e 25
def chz (e f g : UInt32) : UInt32 := g ^^^ (e &&& (f ^^^ g))
def tmp (k w : UInt32) (s : S8) : UInt32 := (((s.h + S1 s.e) + chz s.e s.f s.g) + k) + w
def S8.add (x y : S8) : S8 := ⟨x.a + y.a, x.b + y.b, x.c + y.c, x.d + y.d, x.e + y.e, x.f + y.f, x.g + y.g, x.h + y.h⟩
/-! ### The words' sums, one by one -/
end Go.Proofs.YtoimhmphhffelaaDoor
set_option linter.unusedVariables false
set_option linter.unusedSimpArgs false
namespace Go.Proofs.YtoimhmphhffelaaDoor
open Go Go.RowKit Go.Proofs.E
attribute [local irreducible] Go.wpList Go.Code.wp Go.Proofs.E.exec Go.Proofs.E.wpLexG

/-! ### Byte by byte -/
structure St where (h : S8) (rest : List UInt8) (n : Nat)
end Go.Proofs.YtoimhmphhffelaaDoor
set_option linter.unusedVariables false
set_option linter.unusedSimpArgs false
namespace Go.Proofs.YtoimhmphhffelaaDoor
open Go Go.RowKit Go.Proofs.E
attribute [local irreducible] Go.wpList Go.Code.wp Go.Proofs.E.exec Go.Proofs.E.wpLexG

/-- The eight bytes of a length, from the greatest. -/
def lenUp (N : Nat) : Nat → List UInt8
  | 0 => []
  | k + 1 => UInt8.ofNat (N / 2 ^ (8 * k)) :: lenUp N k
/-- What is put behind n bytes. -/
def tail (n : Nat) : List UInt8 := (0x80 :: List.replicate ((120 - (n + 1) % 64) % 64) 0) ++ lenUp (8 * n) 8
end Go.Proofs.YtoimhmphhffelaaDoor
set_option linter.unusedVariables false
set_option linter.unusedSimpArgs false
namespace Go.Proofs.YtoimhmphhffelaaDoor
open Go Go.RowKit Go.Proofs.E
attribute [local irreducible] Go.wpList Go.Code.wp Go.Proofs.E.exec Go.Proofs.E.wpLexG

/-- A sum's bytes as a value. -/
def hv (a : List UInt8) : Value := .agg (a.map u8v).toArray
end Go.Proofs.YtoimhmphhffelaaDoor
set_option linter.unusedVariables false
set_option linter.unusedSimpArgs false
namespace Go.Proofs.YtoimhmphhffelaaDoor
open Go Go.RowKit Go.Proofs.E
attribute [local irreducible] Go.wpList Go.Code.wp Go.Proofs.E.exec Go.Proofs.E.wpLexG

end Go.Proofs.YtoimhmphhffelaaDoor
set_option linter.unusedVariables false
set_option linter.unusedSimpArgs false
namespace Go.Proofs.YtoimhmphhffelaaDoor
open Go Go.RowKit Go.Proofs.E
attribute [local irreducible] Go.wpList Go.Code.wp Go.Proofs.E.exec Go.Proofs.E.wpLexG

end Go.Proofs.YtoimhmphhffelaaDoor

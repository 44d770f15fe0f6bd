/- The law of halves. -/
import Derived.Test.YtfldckjkipmibaaDoorRRoot
import Derived.Test.YtfldckjkipmibaaDoorU
set_option linter.unusedVariables false
set_option linter.unusedSimpArgs false
namespace Go.Proofs.YtfldckjkipmibaaDoor
open Go Go.RowKit Go.Proofs.E
attribute [local irreducible] Go.wpList Go.Code.wp Go.Proofs.E.exec Go.Proofs.E.wpLexG
end Go.Proofs.YtfldckjkipmibaaDoor

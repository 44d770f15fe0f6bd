/- Plain, of law 34: which pairs are as a query wants them; between which texts they stand; what it tells of pairs. -/
import Derived.Test.YtoimhmphhffelaaDoorQQueryBack10
import Derived.Lib.IndexMore
import Derived.Lib.Strings
set_option linter.unusedVariables false
set_option linter.unusedSimpArgs false
namespace Go.Proofs.E
open Go
/-! ### The order of texts -/
/-! ### Between which texts -/
/-! ### Counts -/
end Go.Proofs.E

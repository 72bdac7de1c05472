/- Sets of keys, of the reference. -/
import Derived.Test.YtdndobkfnmommaaGreatP24zTA
set_option linter.unusedVariables false
set_option linter.unusedSimpArgs false
namespace Go.SyP
open Go Go.Sy Sets
end Go.SyP
namespace Go.SyP
open Go Go.Sy Sets
end Go.SyP

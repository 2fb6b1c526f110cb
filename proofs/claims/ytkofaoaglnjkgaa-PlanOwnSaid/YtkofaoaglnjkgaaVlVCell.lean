/- The contract of value.Cell. -/
import Derived.Test.YtkofaoaglnjkgaaVlVal
import Derived.Handy
namespace Go.Proofs.Ytkofaoaglnjkgaa
open Go.RowKit Go.Deep
set_option linter.unusedVariables false
set_option linter.unusedSimpArgs false

end Go.Proofs.Ytkofaoaglnjkgaa

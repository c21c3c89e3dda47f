/- Contracts: remainders and powers, of the program and of the reference. -/
import Derived.Test.YteeicpfjmahmeaaWk
import Derived.Test.YteeicpfjmahmeaaBit
import Derived.Test.YteeicpfjmahmeaaNum
set_option linter.unusedVariables false
set_option linter.unusedSimpArgs false
namespace Go.Proofs.Yteeicpfjmahmeaa
open Go.RowKit

end Go.Proofs.Yteeicpfjmahmeaa

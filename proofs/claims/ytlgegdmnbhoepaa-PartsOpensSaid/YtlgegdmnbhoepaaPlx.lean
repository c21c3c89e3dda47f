/- The reference's PointsCheck. -/
import Derived.Test.YtlgegdmnbhoepaaPlw
set_option linter.unusedVariables false
set_option linter.unusedSimpArgs false
namespace Go.Proofs.Ytlgegdmnbhoepaa
open Go.RowKit
end Go.Proofs.Ytlgegdmnbhoepaa

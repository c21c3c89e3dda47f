/- field.Add, the reference's FieldAdd. -/
import Derived.Test.YtjhjppaabmbbbaaFdb
namespace Lw
open Go Go.RowKit
theorem elB_two {S a b : Int} : elB S [a, b] = true ↔ (0 ≤ a ∧ a < S) ∧ 0 ≤ b ∧ b < S := by simp [elB]
theorem elB_one {S a : Int} : elB S [a] = true ↔ 0 ≤ a ∧ a < S := by simp [elB]
end Lw
set_option linter.unusedVariables false
set_option linter.unusedSimpArgs false
namespace Go.Proofs.Ytjhjppaabmbbbaa
open Go.RowKit
end Go.Proofs.Ytjhjppaabmbbbaa

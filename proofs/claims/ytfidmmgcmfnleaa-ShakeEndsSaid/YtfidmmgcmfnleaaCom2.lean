/- Contracts of commit.over, commit.Other and commit.Break. -/
import Derived.Test.YtfidmmgcmfnleaaCom
import Derived.Test.YtfidmmgcmfnleaaBrk
namespace Lw
theorem inv_ok {b m : Int} (h1 : 1 ≤ m) (h2 : m ≤ 1048576) (h : gcdI (b % m) m = 1) : invR (b % m) m = invI (b % m) m ∧ invE (b % m) m = 0 ∧ 0 ≤ invI (b % m) m ∧ invI (b % m) m < m := by
  have hb := emod_bd b m (by omega)
  have := invE_zero (a := b % m) (m := m) (by omega) h
  obtain ⟨k1, k2, _⟩ := invI_spec (by omega) h
  exact ⟨this.2, this.1, k1, k2⟩
end Lw
set_option linter.unusedVariables false
set_option linter.unusedSimpArgs false
namespace Go.Proofs.Ytfidmmgcmfnleaa
open Go.RowKit
end Go.Proofs.Ytfidmmgcmfnleaa

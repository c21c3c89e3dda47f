/- Contracts of package commit, and of the statements' helper bound. -/
import Derived.Test.YtfidmmgcmfnleaaGrp1
import Derived.Test.YtfidmmgcmfnleaaMem
import Derived.Test.YtfidmmgcmfnleaaEuc
import Derived.Deep.RegionWith
import Derived.IntWalk
namespace Lw
theorem askE_app (P Q G H : Int) (ps qs : List Int) : askE P Q G H (ps ++ qs) [] = if askE P Q G H ps [] = 0 then askE P Q G H qs [] else askE P Q G H ps [] := by
  unfold askE
  have h : psB Q (ps ++ qs) = (psB Q ps && psB Q qs) := by unfold psB; rw [List.all_append]
  have hm : msB P Q [] = true := rfl
  rw [h, hm]
  by_cases h0 : groupE P Q G H = 0
  · simp only [h0, if_true]
    cases psB Q ps <;> cases psB Q qs <;> simp
  · simp only [h0, if_false]
theorem askE_app_ok {P Q G H : Int} {ps qs : List Int} (h : askE P Q G H (ps ++ qs) [] = 0) : askE P Q G H ps [] = 0 ∧ askE P Q G H qs [] = 0 := by
  rw [askE_app] at h
  by_cases h1 : askE P Q G H ps [] = 0
  · rw [if_pos h1] at h; exact ⟨h1, h⟩
  · rw [if_neg h1] at h; exact absurd h h1
theorem askE_app_bad {P Q G H E : Int} {ps qs : List Int} (h : askE P Q G H (ps ++ qs) [] = E) : (askE P Q G H ps [] = 0 ∧ askE P Q G H qs [] = E) ∨ (askE P Q G H ps [] = E ∧ ¬ E = 0) := by
  rw [askE_app] at h
  by_cases h1 : askE P Q G H ps [] = 0
  · rw [if_pos h1] at h; exact .inl ⟨h1, h⟩
  · rw [if_neg h1] at h; exact .inr ⟨h, by rw [← h]; exact h1⟩
def bnd (P Q G H m r : Int) : Int := pw G m P * pw H r P % P
/-- the facts of a group that may be -/
theorem grp_facts {P Q G H : Int} (h : groupE P Q G H = 0) : 3 ≤ P ∧ P ≤ 1048576 ∧ 2 ≤ Q ∧ Q < P ∧ 2 ≤ G ∧ G < P ∧ 2 ≤ H ∧ H < P ∧ Prime P.toNat ∧ Prime Q.toNat ∧ pw G Q P = 1 ∧ pw H Q P = 1 := by
  obtain ⟨⟨h1, h2, h3, h4, h5, h6, h7, h8⟩, g1, g2, g3, g4, g5⟩ := groupE_ok h
  refine ⟨h1, h2, h3, h4, h5, h6, h7, h8, ?_, ?_, g4, g5⟩
  · unfold primeB at g1; exact of_decide_eq_true g1
  · unfold primeB at g2; exact of_decide_eq_true g2
theorem pw_prod_bd {P x y : Int} (h1 : 0 < P) (h2 : P ≤ 1048576) (hx : 0 ≤ x ∧ x < P) (hy : 0 ≤ y ∧ y < P) : 0 ≤ x * y ∧ x * y ≤ 1099511627776 := by
  have := mul_bd' x y 1048576 hx.1 (by omega) hy.1 (by omega); omega
end Lw
set_option linter.unusedVariables false
set_option linter.unusedSimpArgs false
namespace Go.Proofs.Ytfidmmgcmfnleaa
open Go.RowKit
end Go.Proofs.Ytfidmmgcmfnleaa

/- Contracts of the small helpers of the statements: Far, both, modulus, first. -/
import Derived.Test.YtnlbnadjolfjpaaWk
set_option linter.unusedVariables false
set_option linter.unusedSimpArgs false
namespace Lw
def farB (x : Int) : Bool := decide (x < -2147483648) || decide (2147483648 < x)
theorem farB_true {x : Int} (h : x < -2147483648 ∨ 2147483648 < x) : farB x = true := by unfold farB; simp; omega
theorem farB_false {x : Int} (h : ¬ (x < -2147483648 ∨ 2147483648 < x)) : farB x = false := by unfold farB; simp; omega
theorem of_farB_false {x : Int} (h : farB x = false) : -2147483648 ≤ x ∧ x ≤ 2147483648 := by unfold farB at h; simp at h; omega
def bothI (a b : Int) : Int := if farB a || farB b then 2 else 0
def firstI (a b : Int) : Int := if a = 0 then b else a
theorem firstI_zero (b : Int) : firstI 0 b = b := by simp [firstI]
theorem firstI_ne (a b : Int) (h : ¬ a = 0) : firstI a b = a := by simp [firstI, h]
def modI (m : Int) : Int := if m < 1 ∨ 1048576 < m then 2 else 0
end Lw
namespace Go.Proofs.Ytnlbnadjolfjpaa
open Go.RowKit

theorem law_first (a b : Int) (w : World) :
    Calls Try.prog 29 #[.int .i64 a, .int .i64 b] w fun e w' => e = .returned (.int .i64 (Lw.firstI a b)) ∧ w = w' := by
  by_cases h : a = 0
  · subst h
    have E := Lib.hid (Lw.firstI_zero b)
    go_enter Try.func29, Try.ntmps29
    go_wp2
    go_ret
    rw [E.out]; exact ⟨rfl, rfl⟩
  · have h1 : (a != 0) = true := by simpa using h
    have E := Lib.hid (Lw.firstI_ne a b h)
    clear h
    go_enter Try.func29, Try.ntmps29
    go_wp2
    go_ret
    rw [E.out]; exact ⟨rfl, rfl⟩
end Go.Proofs.Ytnlbnadjolfjpaa

/- The statements' helper odd, of two numbers. -/
import Derived.Test.YthejhpbbjjjmjaaPow
import Derived.Test.YthejhpbbjjjmjaaHelp
namespace Lw
/-- what is wrong with a number and an odd one: 0 or 2 -/
def oddI (a n : Int) : Int := if a < -2147483648 ∨ 2147483648 < a ∨ n < 3 ∨ 1048576 < n ∨ n % 2 = 0 then 2 else 0
theorem oddI_bad {a n : Int} (h : a < -2147483648 ∨ 2147483648 < a ∨ n < 3 ∨ 1048576 < n ∨ n % 2 = 0) : oddI a n = 2 := if_pos h
theorem oddI_ok {a n : Int} (h : ¬ (a < -2147483648 ∨ 2147483648 < a ∨ n < 3 ∨ 1048576 < n ∨ n % 2 = 0)) : oddI a n = 0 := if_neg h
end Lw
set_option linter.unusedVariables false
set_option linter.unusedSimpArgs false
namespace Go.Proofs.Ythejhpbbjjjmjaa
open Go.RowKit
theorem law_odd (a n : Int) (w : World) :
    Calls Try.prog 26 #[.int .i64 a, .int .i64 n] w fun e w' => e = .returned (.int .i64 (Lw.oddI a n)) ∧ w = w' := by
  by_cases h : a < -2147483648 ∨ 2147483648 < a ∨ n < 3 ∨ 1048576 < n ∨ n % 2 = 0
  · have E := Lib.hid (Lw.oddI_bad h)
    have hc : Lw.farB a = true ∨ (Lw.farB a = false ∧ (n < 3 ∨ (3 ≤ n ∧ 1048576 < n) ∨ ((3 ≤ n ∧ n ≤ 1048576) ∧ (n % 2 == 0) = true))) := by
      unfold Lw.farB; simp; omega
    clear h
    rcases hc with h | ⟨h, h1 | ⟨h1, h2⟩ | ⟨⟨h1, h2⟩, h3⟩⟩
    all_goals
      go_enter Try.func26, Try.ntmps26
      go_wp2_with (go_at_call 54; refine (ref_Far _ _).mono ?_; rintro e w' ⟨rfl, rfl⟩)
      go_ret
      rw [E.out]; exact ⟨rfl, rfl⟩
  · have E := Lib.hid (Lw.oddI_ok h)
    have hc : Lw.farB a = false ∧ 3 ≤ n ∧ n ≤ 1048576 ∧ (n % 2 == 0) = false := by
      unfold Lw.farB; simp; omega
    obtain ⟨h1, h2, h3, h4⟩ := hc
    clear h
    go_enter Try.func26, Try.ntmps26
    go_wp2_with (go_at_call 54; refine (ref_Far _ _).mono ?_; rintro e w' ⟨rfl, rfl⟩)
    go_ret
    rw [E.out]; exact ⟨rfl, rfl⟩
end Go.Proofs.Ythejhpbbjjjmjaa

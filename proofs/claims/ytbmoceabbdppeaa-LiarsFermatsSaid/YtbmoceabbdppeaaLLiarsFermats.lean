/- The law LiarsFermats: liars.Fermat tells whether the power is 1, as the reference's power says. -/
import Derived.Test.YtbmoceabbdppeaaLiar
set_option linter.unusedVariables false
namespace Go.Proofs.Ytbmoceabbdppeaa.LW
open Go.RowKit
set_option maxHeartbeats 1000000 in
theorem LiarsFermats (a n : Int) (w : World) (wa : (Lit.int .i64 a).wf = true) (wb : (Lit.int .i64 n).wf = true) :
    Calls Try.prog 7 #[.int .i64 a, .int .i64 n] w fun e w' => e = .returned (.bool true) ∧ Below w.heap.size w w' := by
  clear wa wb
  by_cases h : a < -2147483648 ∨ 2147483648 < a ∨ n < 3 ∨ 1048576 < n ∨ n % 2 = 0
  · have E := Lw.oddI_bad h
    have hc : a < -2147483648 ∨ (-2147483648 ≤ a ∧ 2147483648 < a) ∨ ((-2147483648 ≤ a ∧ a ≤ 2147483648) ∧ (n < 3 ∨ (3 ≤ n ∧ 1048576 < n) ∨ ((3 ≤ n ∧ n ≤ 1048576) ∧ (n % 2 == 0) = true))) := by
      simp; omega
    clear h
    rcases hc with h | ⟨h, h1⟩ | ⟨⟨h1, h2⟩, h | ⟨h, h3⟩ | ⟨⟨h3, h4⟩, h5⟩⟩
    all_goals
      go_enter Try.func7, Try.ntmps7
      go_wp2_with (first | (go_at_call 26; refine (law_odd _ _ _).mono ?_; rintro e w' ⟨rfl, rfl⟩) | go_in)
      go_ret
      exact ⟨rfl, Below.refl _ _⟩
  · have E := Lw.oddI_ok h
    have hc : (-2147483648 ≤ a ∧ a ≤ 2147483648) ∧ (3 ≤ n ∧ n ≤ 1048576) ∧ (n % 2 == 0) = false := by
      simp; omega
    obtain ⟨⟨h1, h2⟩, ⟨h3, h4⟩, h5⟩ := hc
    clear h
    go_enter Try.func7, Try.ntmps7
    go_wp2_with (first | (go_at_call 26; refine (law_odd _ _ _).mono ?_; rintro e w' ⟨rfl, rfl⟩) | (go_at_call 44; refine (power_Of _ _ _ _ (by omega) (by omega) (by omega) (by omega)).mono ?_; rintro e w' ⟨rfl, rfl⟩) | (go_at_call 21; refine (ref_Pow _ _ _ _ _ (Nat.le_refl _) (by omega) (by omega) (by omega) (by omega)).mono ?_; rintro e w' ⟨rfl, rfl⟩) | go_in)
    go_ret
    exact ⟨by simp, Below.refl _ _⟩
end Go.Proofs.Ytbmoceabbdppeaa.LW

/- The law LiarsStrong: liars.Strong tells what the reference's test by square roots of 1 tells. -/
import Derived.Test.YtcnifgdlihlkaaaStrong
set_option linter.unusedVariables false
namespace Go.Proofs.Ytcnifgdlihlkaaa.LW
open Go.RowKit
set_option maxHeartbeats 1000000 in
theorem LiarsStrong (a n : Int) (w : World) (wa : (Lit.int .i64 a).wf = true) (wb : (Lit.int .i64 n).wf = true) :
    Calls Try.prog 7 #[.int .i64 a, .int .i64 n] w fun e w' => e = .returned (.bool true) ∧ Below w.heap.size w w' := by
  clear wa wb
  by_cases h : a < -2147483648 ∨ 2147483648 < a ∨ n < 3 ∨ 1048576 < n ∨ n % 2 = 0
  · have E := Lw.oddI_bad h
    have hc : a < -2147483648 ∨ (-2147483648 ≤ a ∧ 2147483648 < a) ∨ ((-2147483648 ≤ a ∧ a ≤ 2147483648) ∧ (n < 3 ∨ (3 ≤ n ∧ 1048576 < n) ∨ ((3 ≤ n ∧ n ≤ 1048576) ∧ (n % 2 == 0) = true))) := by
      simp; omega
    clear h
    rcases hc with h | ⟨h, h1⟩ | ⟨⟨h1, h2⟩, h | ⟨h, h3⟩ | ⟨⟨h3, h4⟩, h5⟩⟩
    all_goals
      go_enter Try.func7, Try.ntmps7
      go_wp2_with (first | (go_at_call 28; refine (law_odd _ _ _).mono ?_; rintro e w' ⟨rfl, rfl⟩) | go_in)
      go_ret
      exact ⟨rfl, Below.refl _ _⟩
  · have E := Lw.oddI_ok h
    have hc : (-2147483648 ≤ a ∧ a ≤ 2147483648) ∧ (3 ≤ n ∧ n ≤ 1048576) ∧ (n % 2 == 0) = false := by
      simp; omega
    obtain ⟨⟨h1, h2⟩, ⟨h3, h4⟩, h5⟩ := hc
    clear h
    go_enter Try.func7, Try.ntmps7
    go_wp2_with (first | (go_at_call 28; refine (law_odd _ _ _).mono ?_; rintro e w' ⟨rfl, rfl⟩) | (go_at_call 56; refine (liars_strong _ _ _ (by omega) (by omega)).mono ?_; rintro e w' ⟨rfl, rfl⟩) | (go_at_call 29; refine (ref_Strong _ _ _ (by omega) (by omega)).mono ?_; rintro e w' ⟨rfl, rfl⟩) | go_in)
    go_ret
    exact ⟨by simp, Below.refl _ _⟩
end Go.Proofs.Ytcnifgdlihlkaaa.LW

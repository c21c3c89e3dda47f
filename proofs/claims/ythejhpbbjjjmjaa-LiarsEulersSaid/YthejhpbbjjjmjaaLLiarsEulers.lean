/- The law LiarsEulers: liars.Euler tells whether the power is the symbol, as the reference's power and symbol say. -/
import Derived.Test.YthejhpbbjjjmjaaLiar
import Derived.Test.YthejhpbbjjjmjaaJacr
set_option linter.unusedVariables false
namespace Go.Proofs.Ythejhpbbjjjmjaa.LW
open Go.RowKit
set_option maxHeartbeats 1000000 in
theorem LiarsEulers (a n : Int) (w : World) (wa : (Lit.int .i64 a).wf = true) (wb : (Lit.int .i64 n).wf = true) :
    Calls Try.prog 6 #[.int .i64 a, .int .i64 n] w fun e w' => e = .returned (.bool true) ∧ Below w.heap.size w w' := by
  clear wa wb
  by_cases h : a < -2147483648 ∨ 2147483648 < a ∨ n < 3 ∨ 1048576 < n ∨ n % 2 = 0
  · have E := Lw.oddI_bad h
    have hc : a < -2147483648 ∨ (-2147483648 ≤ a ∧ 2147483648 < a) ∨ ((-2147483648 ≤ a ∧ a ≤ 2147483648) ∧ (n < 3 ∨ (3 ≤ n ∧ 1048576 < n) ∨ ((3 ≤ n ∧ n ≤ 1048576) ∧ (n % 2 == 0) = true))) := by
      simp; omega
    clear h
    rcases hc with h | ⟨h, h1⟩ | ⟨⟨h1, h2⟩, h | ⟨h, h3⟩ | ⟨⟨h3, h4⟩, h5⟩⟩
    all_goals
      go_enter Try.func6, Try.ntmps6
      go_wp2_with (first | (go_at_call 26; refine (law_odd _ _ _).mono ?_; rintro e w' ⟨rfl, rfl⟩) | go_in)
      go_ret
      exact ⟨rfl, Below.refl _ _⟩
  · have E := Lw.oddI_ok h
    have hc : (-2147483648 ≤ a ∧ a ≤ 2147483648) ∧ (3 ≤ n ∧ n ≤ 1048576) ∧ (n % 2 == 0) = false := by
      simp; omega
    have HO : Hid (n % 2 = 1) := by show _ = _; omega
    obtain ⟨⟨h1, h2⟩, ⟨h3, h4⟩, h5⟩ := hc
    clear h
    have C1 := fun (w : World) => squares_Of a n w (by omega) h4 HO.out
    have C2 := fun (w : World) => ref_Jacobi a n w (by omega) h4 HO.out
    obtain ⟨j1, j2⟩ := Lw.sgn_bd (Lw.jac_sgn (a % n).toNat n.toNat)
    generalize Lw.jac (a % n).toNat n.toNat = J at C1 C2 j1 j2
    have C1 := Lib.hid C1
    have C2 := Lib.hid C2
    have hJ : (J != 0) = true ∨ (J != 0) = false := by cases (J != 0) <;> simp
    rcases hJ with hJ | hJ
    all_goals
      go_enter Try.func6, Try.ntmps6
      go_wp2_with (first | (go_at_call 26; refine (law_odd _ _ _).mono ?_; rintro e w' ⟨rfl, rfl⟩) | (go_at_call 53; refine (C1.out _).mono ?_; rintro e w' ⟨rfl, rfl⟩) | (go_at_call 24; refine (C2.out _).mono ?_; rintro e w1 ⟨rfl, hb1⟩; obtain ⟨hc1, hf1⟩ := Lw.bcell hb1) | (go_at_call 58; refine (power_Of _ _ _ _ (by omega) (by omega) (by omega) (by omega)).mono ?_; rintro e w' ⟨rfl, rfl⟩) | (go_at_call 27; refine (ref_Pow _ _ _ _ _ (Nat.le_refl _) (by omega) (by omega) (by omega) (by omega)).mono ?_; rintro e w' ⟨rfl, rfl⟩) | (go_at_call 59; refine (euclid_Mod _ _ _ (by omega) (by omega)).mono ?_; rintro e w' ⟨rfl, rfl⟩) | (go_at_call 28; refine (ref_Mod _ _ _ (by omega) (by omega)).mono ?_; rintro e w' ⟨rfl, rfl⟩) | go_in)
      go_ret
      exact ⟨by simp, hb1⟩
end Go.Proofs.Ythejhpbbjjjmjaa.LW

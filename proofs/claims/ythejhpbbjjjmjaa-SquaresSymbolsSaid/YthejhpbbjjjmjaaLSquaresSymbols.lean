/- The law SquaresSymbols: squares.Jacobi is the reference's symbol. -/
import Derived.Test.YthejhpbbjjjmjaaJacr
import Derived.Test.YthejhpbbjjjmjaaHelp
set_option linter.unusedVariables false
namespace Go.Proofs.Ythejhpbbjjjmjaa.LW
open Go.RowKit
set_option maxHeartbeats 1000000 in
theorem SquaresSymbols (a n : Int) (w : World) (wa : (Lit.int .i64 a).wf = true) (wn : (Lit.int .i64 n).wf = true) :
    Calls Try.prog 5 #[.int .i64 a, .int .i64 n] w fun e w' => e = .returned (.bool true) ∧ Below w.heap.size w w' := by
  clear wa wn
  have hc : ((a < -2147483648 ∨ 2147483648 < a ∨ n < 1 ∨ 1048576 < n ∨ n % 2 = 0) ∧ (Lw.firstI (Lw.bothI a 0) (Lw.modI n) = 2 ∨ (Lw.firstI (Lw.bothI a 0) (Lw.modI n) = 0 ∧ 1 ≤ n ∧ n ≤ 1048576 ∧ (n % 2 == 0) = true))) ∨ ((Lw.firstI (Lw.bothI a 0) (Lw.modI n) = 0) ∧ -2147483648 ≤ a ∧ a ≤ 2147483648 ∧ 1 ≤ n ∧ n ≤ 1048576 ∧ (n % 2 == 0) = false) := by
    unfold Lw.firstI Lw.bothI Lw.farB Lw.modI; simp; omega
  rcases hc with ⟨hb, h⟩ | ⟨E1, h1, h2, h3, h4, h5⟩
  · have HB := Lib.hid hb
    clear hb
    rcases h with E1 | ⟨E1, h1, h2, h3⟩
    all_goals
      go_enter Try.func5, Try.ntmps5
      go_wp2_with (first | (go_at_call 21; refine (squares_Jacobi_bad _ _ _ HB.out).mono ?_; rintro e w' ⟨rfl, rfl⟩) | (go_at_call 23; refine (law_both _ _ _).mono ?_; rintro e w' ⟨rfl, rfl⟩) | (go_at_call 16; refine (law_modulus _ _).mono ?_; rintro e w' ⟨rfl, rfl⟩) | (go_at_call 22; refine (law_first _ _ _).mono ?_; rintro e w' ⟨rfl, rfl⟩))
      all_goals
        go_ret
        exact ⟨rfl, Below.refl _ _⟩
  · have HO : Hid (n % 2 = 1) := by show _ = _; simp at h5; omega
    go_enter Try.func5, Try.ntmps5
    go_wp2_with (first | (go_at_call 21; refine (squares_Jacobi _ _ _ h1 h2 h3 h4 HO.out).mono ?_; rintro e w' ⟨rfl, rfl⟩) | (go_at_call 23; refine (law_both _ _ _).mono ?_; rintro e w' ⟨rfl, rfl⟩) | (go_at_call 16; refine (law_modulus _ _).mono ?_; rintro e w' ⟨rfl, rfl⟩) | (go_at_call 22; refine (law_first _ _ _).mono ?_; rintro e w' ⟨rfl, rfl⟩) | (go_at_call 24; refine (ref_Jacobi _ _ _ h3 h4 HO.out).mono ?_; rintro e w1 ⟨rfl, hb1⟩; obtain ⟨hc1, hf1⟩ := Lw.bcell hb1))
    go_ret
    exact ⟨by simp, hb1⟩
end Go.Proofs.Ythejhpbbjjjmjaa.LW

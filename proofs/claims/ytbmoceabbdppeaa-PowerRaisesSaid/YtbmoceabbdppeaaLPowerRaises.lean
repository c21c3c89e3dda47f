/- The law PowerRaises: the program's power is the reference's power. -/
import Derived.Test.YtbmoceabbdppeaaPow
import Derived.Test.YtbmoceabbdppeaaHelp
set_option linter.unusedVariables false
namespace Go.Proofs.Ytbmoceabbdppeaa.LW
open Go.RowKit
set_option maxHeartbeats 1000000 in
theorem PowerRaises (a k m : Int) (w : World) (wa : (Lit.int .i64 a).wf = true) (wk : (Lit.int .i64 k).wf = true) (wm : (Lit.int .i64 m).wf = true) :
    Calls Try.prog 4 #[.int .i64 a, .int .i64 k, .int .i64 m] w fun e w' => e = .returned (.bool true) ∧ Below w.heap.size w w' := by
  clear wa wk wm
  have hc : ((a < -2147483648 ∨ 2147483648 < a ∨ m < 1 ∨ 1048576 < m ∨ k < 0 ∨ 2147483648 < k) ∧ ((Lw.firstI (Lw.bothI a 0) (Lw.modI m) = 2) ∨ (k < 0 ∨ (0 ≤ k ∧ 2147483648 < k)))) ∨ ((Lw.firstI (Lw.bothI a 0) (Lw.modI m) = 0) ∧ -2147483648 ≤ a ∧ a ≤ 2147483648 ∧ 1 ≤ m ∧ m ≤ 1048576 ∧ 0 ≤ k ∧ k ≤ 2147483648) := by
    unfold Lw.firstI Lw.bothI Lw.farB Lw.modI; simp; omega
  rcases hc with ⟨hb, h⟩ | ⟨E1, h1, h2, h3, h4, h5, h6⟩
  · have HB := Lib.hid hb
    clear hb
    rcases h with E1 | h | ⟨h, h'⟩
    all_goals
      go_enter Try.func4, Try.ntmps4
      go_wp2_with fail
      refine (power_Pow_bad _ _ _ _ HB.out).mono ?_
      rintro e w' ⟨rfl, rfl⟩
      go_wp2_with (first | (go_at_call 19; refine (law_both _ _ _).mono ?_; rintro e w' ⟨rfl, rfl⟩) | (go_at_call 20; refine (law_modulus _ _).mono ?_; rintro e w' ⟨rfl, rfl⟩) | (go_at_call 18; refine (law_first _ _ _).mono ?_; rintro e w' ⟨rfl, rfl⟩))
      all_goals
        go_ret
        exact ⟨rfl, Below.refl _ _⟩
  · go_enter Try.func4, Try.ntmps4
    go_wp2_with fail
    refine (power_Pow_ok _ _ _ _ h1 h2 h3 h4 h5 h6).mono ?_
    rintro e w' ⟨rfl, rfl⟩
    go_wp2_with (first | (go_at_call 19; refine (law_both _ _ _).mono ?_; rintro e w' ⟨rfl, rfl⟩) | (go_at_call 20; refine (law_modulus _ _).mono ?_; rintro e w' ⟨rfl, rfl⟩) | (go_at_call 18; refine (law_first _ _ _).mono ?_; rintro e w' ⟨rfl, rfl⟩) | (go_at_call 21; refine (ref_Pow _ _ _ _ _ (Nat.le_refl _) (by omega) (by omega) (by omega) (by omega)).mono ?_; rintro e w' ⟨rfl, rfl⟩))
    go_ret
    exact ⟨by simp, Below.refl _ _⟩
end Go.Proofs.Ytbmoceabbdppeaa.LW

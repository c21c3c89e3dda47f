/- The law EuclidInverts: what euclid.Inverse returns makes 1 of the number, or the error says why there is none. -/
import Derived.Test.YtbmoceabbdppeaaEuc
set_option linter.unusedVariables false
namespace Go.Proofs.Ytbmoceabbdppeaa.LW
open Go.RowKit
set_option maxHeartbeats 2000000 in
theorem EuclidInverts (a m : Int) (w : World) (wa : (Lit.int .i64 a).wf = true) (wm : (Lit.int .i64 m).wf = true) :
    Calls Try.prog 11 #[.int .i64 a, .int .i64 m] w fun e w' => e = .returned (.bool true) ∧ Below w.heap.size w w' := by
  clear wa wm
  by_cases hbad : a < -2147483648 ∨ 2147483648 < a ∨ m < 1 ∨ 1048576 < m
  · obtain ⟨E, R⟩ := Lw.invE_two hbad
    have F : Lw.firstI (Lw.bothI a 0) (Lw.modI m) = 2 := by unfold Lw.firstI Lw.bothI Lw.farB Lw.modI; simp; omega
    clear hbad
    go_enter Try.func11, Try.ntmps11
    go_wp2_with (first | (go_at_call 34; refine (euclid_Inverse _ _ _).mono ?_; rintro e w1 ⟨rfl, hb1⟩; obtain ⟨hc1, hf1⟩ := Lw.bcell hb1) | (go_at_call 19; refine (law_both _ _ _).mono ?_; rintro e w' ⟨rfl, rfl⟩) | (go_at_call 20; refine (law_modulus _ _).mono ?_; rintro e w' ⟨rfl, rfl⟩) | (go_at_call 18; refine (law_first _ _ _).mono ?_; rintro e w' ⟨rfl, rfl⟩))
    go_ret
    exact ⟨rfl, Lw.bt (by go_grown) hb1⟩
  · have hok : (-2147483648 ≤ a ∧ a ≤ 2147483648) ∧ 1 ≤ m ∧ m ≤ 1048576 := by omega
    obtain ⟨⟨h1, h2⟩, h3, h4⟩ := hok
    have F : Lw.firstI (Lw.bothI a 0) (Lw.modI m) = 0 := by unfold Lw.firstI Lw.bothI Lw.farB Lw.modI; simp; omega
    by_cases hg : Lw.gcdI a m = 1
    · obtain ⟨E, R⟩ := Lw.invE_zero hbad hg
      obtain ⟨i1, i2, i3⟩ := Lw.invI_spec (by omega) hg
      obtain ⟨s1, s2⟩ := Lw.emod_bd a m (by omega)
      obtain ⟨t1, t2⟩ := Lw.mul_bd' (Lw.invI a m) (a % m) 1048576 i1 (by omega) s1 (by omega)
      have I3 : (Lw.invI a m * (a % m) % m == 1 % m) = true := by rw [i3]; simp
      clear hbad i3
      go_enter Try.func11, Try.ntmps11
      go_wp2_with (first | (go_at_call 34; refine (euclid_Inverse _ _ _).mono ?_; rintro e w1 ⟨rfl, hb1⟩; obtain ⟨hc1, hf1⟩ := Lw.bcell hb1) | (go_at_call 19; refine (law_both _ _ _).mono ?_; rintro e w' ⟨rfl, rfl⟩) | (go_at_call 20; refine (law_modulus _ _).mono ?_; rintro e w' ⟨rfl, rfl⟩) | (go_at_call 18; refine (law_first _ _ _).mono ?_; rintro e w' ⟨rfl, rfl⟩) | (go_at_call 31; refine (ref_Gcd _ _ _ (by omega) (by omega) (by omega) (by omega)).mono ?_; rintro e w' ⟨rfl, rfl⟩))
      go_quiet ((go_at_call 35; exact Lw.quiet (ref_Mod _ _ _ (by omega) (by omega))))
      go_wp2
      go_ret
      exact ⟨by simp, below_drewN (Lw.bt (by go_grown) hb1) _⟩
    · obtain ⟨E, R⟩ := Lw.invE_five hbad hg
      have hg1 : (Lw.gcdI a m != 1) = true := by simpa using hg
      clear hbad
      go_enter Try.func11, Try.ntmps11
      go_wp2_with (first | (go_at_call 34; refine (euclid_Inverse _ _ _).mono ?_; rintro e w1 ⟨rfl, hb1⟩; obtain ⟨hc1, hf1⟩ := Lw.bcell hb1) | (go_at_call 19; refine (law_both _ _ _).mono ?_; rintro e w' ⟨rfl, rfl⟩) | (go_at_call 20; refine (law_modulus _ _).mono ?_; rintro e w' ⟨rfl, rfl⟩) | (go_at_call 18; refine (law_first _ _ _).mono ?_; rintro e w' ⟨rfl, rfl⟩) | (go_at_call 31; refine (ref_Gcd _ _ _ (by omega) (by omega) (by omega) (by omega)).mono ?_; rintro e w' ⟨rfl, rfl⟩))
      go_ret
      exact ⟨by simp, Lw.bt (by go_grown) hb1⟩
end Go.Proofs.Ytbmoceabbdppeaa.LW

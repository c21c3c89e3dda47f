/- The law SquaresRoots: squares.Root is the reference's least root, or the code. -/
import Derived.Test.YtlgegdmnbhoepaaTnw
set_option linter.unusedVariables false
namespace Go.Proofs.Ytlgegdmnbhoepaa.LW
open Go.RowKit
set_option maxHeartbeats 1000000 in
theorem SquaresRoots (a p : Int) (w : World) (wa : (Lit.int .i64 a).wf = true) (wp : (Lit.int .i64 p).wf = true) :
    Calls Try.prog 8 #[.int .i64 a, .int .i64 p] w fun e w' => e = .returned (.bool true) ∧ Below w.heap.size w w' := by
  clear wa wp
  have hc : ((a < -2147483648 ∨ 2147483648 < a ∨ p < 1 ∨ 1048576 < p) ∧ Lw.firstI (Lw.bothI a 0) (Lw.modI p) = 2) ∨ ((Lw.firstI (Lw.bothI a 0) (Lw.modI p) = 0) ∧ -2147483648 ≤ a ∧ a ≤ 2147483648 ∧ 1 ≤ p ∧ p ≤ 1048576) := by
    unfold Lw.firstI Lw.bothI Lw.farB Lw.modI; simp; omega
  rcases hc with ⟨hb, E1⟩ | ⟨E1, h1, h2, h3, h4⟩
  · have X := Lib.hid (fun w => squares_Root_far a p w hb)
    clear hb
    go_enter Try.func8, Try.ntmps8
    go_wp2_with (first | (go_at_call 28; (with_reducible refine (X.out _).mono ?_); rintro e w1 ⟨rfl, hb1⟩) | (go_at_call 22; refine (law_both _ _ _).mono ?_; rintro e w' ⟨rfl, rfl⟩) | (go_at_call 26; refine (law_modulus _ _).mono ?_; rintro e w' ⟨rfl, rfl⟩) | (go_at_call 21; refine (law_first _ _ _).mono ?_; rintro e w' ⟨rfl, rfl⟩))
    go_ret
    exact ⟨by simp, hb1⟩
  · by_cases h5 : p = 2
    · have X := Lib.hid (fun w => squares_Root_arg a p w h1 h2 h3 h4 (.inr h5))
      have zp : (p == 2) = true := by simpa using h5
      clear h5
      go_enter Try.func8, Try.ntmps8
      go_wp2_with (first | (go_at_call 28; (with_reducible refine (X.out _).mono ?_); rintro e w1 ⟨rfl, hb1⟩) | (go_at_call 22; refine (law_both _ _ _).mono ?_; rintro e w' ⟨rfl, rfl⟩) | (go_at_call 26; refine (law_modulus _ _).mono ?_; rintro e w' ⟨rfl, rfl⟩) | (go_at_call 21; refine (law_first _ _ _).mono ?_; rintro e w' ⟨rfl, rfl⟩))
      go_ret
      exact ⟨by simp, hb1⟩
    · have zp : (p == 2) = false := by simpa using h5
      cases hp : Lw.primeB p with
      | false =>
        have X := Lib.hid (fun w => squares_Root_arg a p w h1 h2 h3 h4 (.inl hp))
        have Y := fun w => ref_Is p w h4
        rw [hp] at Y
        replace Y := Lib.hid Y
        clear h5 hp
        go_enter Try.func8, Try.ntmps8
        go_wp2_with (first | (go_at_call 28; (with_reducible refine (X.out _).mono ?_); rintro e w1 ⟨rfl, hb1⟩) | (go_at_call 22; refine (law_both _ _ _).mono ?_; rintro e w' ⟨rfl, rfl⟩) | (go_at_call 26; refine (law_modulus _ _).mono ?_; rintro e w' ⟨rfl, rfl⟩) | (go_at_call 21; refine (law_first _ _ _).mono ?_; rintro e w' ⟨rfl, rfl⟩) | (go_at_call 29; (with_reducible refine (Y.out _).mono ?_); rintro e w' ⟨rfl, rfl⟩))
        go_ret
        exact ⟨by simp, hb1⟩
      | true =>
        have Y := fun w => ref_Is p w h4
        rw [hp] at Y
        replace Y := Lib.hid Y
        obtain ⟨n, rfl⟩ := Int.eq_ofNat_of_zero_le (by omega : 0 ≤ p)
        have hP : Lw.Prime n := by unfold Lw.primeB at hp; rw [Int.toNat_natCast] at hp; exact of_decide_eq_true hp
        have ho : n % 2 = 1 := by
          rcases Nat.mod_two_eq_zero_or_one n with h | h
          · have h6 := (Lw.minFac_spec (n := n) hP.1).2.2 2 (Nat.le_refl _) (Nat.dvd_of_mod_eq_zero h)
            rw [hP.2] at h6
            have := hP.1; omega
          · exact h
        have X := Lib.hid (fun w => squares_Root_ok a n w h1 h2 (by omega) hP ho)
        have Z := Lib.hid (fun r (hr : Lw.RtP a (n : Int) r) w => ref_Root a (n : Int) r w h3 h4 hr)
        clear h5 hp hP ho
        go_enter Try.func8, Try.ntmps8
        go_wp2_with fail
        refine (X.out _).mono ?_
        rintro e w1 ⟨⟨r, hr, rfl⟩, hb1⟩
        have ZR := Lib.hid (Z.out r hr)
        clear X Z hr
        by_cases h0 : r < 0
        · rw [if_pos h0]
          go_wp2_with (first | (go_at_call 22; refine (law_both _ _ _).mono ?_; rintro e w' ⟨rfl, rfl⟩) | (go_at_call 26; refine (law_modulus _ _).mono ?_; rintro e w' ⟨rfl, rfl⟩) | (go_at_call 21; refine (law_first _ _ _).mono ?_; rintro e w' ⟨rfl, rfl⟩) | (go_at_call 29; (with_reducible refine (Y.out _).mono ?_); rintro e w' ⟨rfl, rfl⟩) | (go_at_call 30; (with_reducible refine (ZR.out _).mono ?_); rintro e w2 ⟨rfl, hb2⟩))
          go_ret
          exact ⟨by simp, Lw.bt hb1 hb2⟩
        · rw [if_neg h0]
          go_wp2_with (first | (go_at_call 22; refine (law_both _ _ _).mono ?_; rintro e w' ⟨rfl, rfl⟩) | (go_at_call 26; refine (law_modulus _ _).mono ?_; rintro e w' ⟨rfl, rfl⟩) | (go_at_call 21; refine (law_first _ _ _).mono ?_; rintro e w' ⟨rfl, rfl⟩) | (go_at_call 29; (with_reducible refine (Y.out _).mono ?_); rintro e w' ⟨rfl, rfl⟩))
          refine (ZR.out _).mono ?_
          rintro e w2 ⟨rfl, hb2⟩
          go_wp2_with fail
          refine (ZR.out _).mono ?_
          rintro e w3 ⟨rfl, hb3⟩
          go_wp2_with fail
          go_ret
          exact ⟨by simp, Lw.bt (Lw.bt hb1 hb2) hb3⟩
end Go.Proofs.Ytlgegdmnbhoepaa.LW

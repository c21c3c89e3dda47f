/- The law ShiftRuns: shift.Run makes what the reference's rule makes, or the code. -/
import Derived.Test.YtnlbnadjolfjpaaShr
set_option linter.unusedVariables false
namespace Go.Proofs.Ytnlbnadjolfjpaa
open Go.RowKit
theorem shift_Run_large (A B : Option Addr) (n n' c d : Nat) (m : Int) (w : World) (h : 64 < n ∨ m < 0 ∨ 64 < m) :
    Calls Try.prog 10 #[.slice A n c, .slice B n' d, .int .i64 m] w fun e w' => e = .returned (.tuple #[.slice none 0 0, .int .i64 1]) ∧ w = w' := by
  rcases (by omega : (64 : Int) < (n : Int) ∨ (¬ (64 : Int) < (n : Int) ∧ m < 0) ∨ (¬ (64 : Int) < (n : Int) ∧ ¬ m < 0 ∧ 64 < m)) with h1 | ⟨h1, h2⟩ | ⟨h1, h2, h3⟩
  all_goals
    clear h
    go_enter Try.func10, Try.ntmps10
    go_wp2
    go_ret2
    exact ⟨rfl, rfl⟩
theorem shift_Run_form (A B : Option Addr) (n n' c d : Nat) (m : Int) (w : World) (h1 : n ≤ 64) (h2 : 0 ≤ m) (h3 : m ≤ 64) (h4 : ¬ n' = n) :
    Calls Try.prog 10 #[.slice A n c, .slice B n' d, .int .i64 m] w fun e w' => e = .returned (.tuple #[.slice none 0 0, .int .i64 4]) ∧ w = w' := by
  have i1 : ¬ (64 : Int) < (n : Int) := by omega
  have i2 : ¬ m < 0 := by omega
  have i3 : ¬ 64 < m := by omega
  have i4 : ((n' : Int) != (n : Int)) = true := by simp; omega
  clear h1 h2 h3 h4
  go_enter Try.func10, Try.ntmps10
  go_wp2
  go_ret2
  exact ⟨rfl, rfl⟩
namespace LW
set_option maxHeartbeats 1000000 in
theorem ShiftRuns (A : Option Addr) (n c : Nat) (B : Option Addr) (n' d : Nat) (m : Int) (w : World) (hA : Lw.IsSl w [Lw.IsB] A n c) (hB : Lw.IsSl w [Lw.IsB] B n' d) (wm : (Lit.int .i64 m).wf = true) :
    Calls Try.prog 3 #[.slice A n c, .slice B n' d, .int .i64 m] w fun e w' => e = .returned (.bool true) ∧ Below w.heap.size w w' := by
  obtain ⟨taps, RA, l1⟩ := hA.bools
  obtain ⟨first, RB, l2⟩ := hB.bools
  clear wm hA hB
  by_cases h : 64 < n ∨ m < 0 ∨ 64 < m
  · have X := Lib.hid (fun w => shift_Run_large A B n n' c d m w h)
    rcases (by omega : (64 : Int) < (n : Int) ∨ (¬ (64 : Int) < (n : Int) ∧ m < 0) ∨ (¬ (64 : Int) < (n : Int) ∧ ¬ m < 0 ∧ 64 < m)) with h1 | ⟨h1, h2⟩ | ⟨h1, h2, h3⟩
    all_goals
      clear h RA RB l1 l2
      go_enter Try.func3, Try.ntmps3
      go_wp2_with fail
      refine (X.out _).mono ?_
      rintro e w' ⟨rfl, rfl⟩
      go_wp2
      go_ret
      exact ⟨rfl, Below.refl _ _⟩
  · by_cases hn : n' = n
    · subst hn
      obtain ⟨k, rfl⟩ := Int.eq_ofNat_of_zero_le (by omega : 0 ≤ m)
      have X := Lib.hid (shift_Run A B n' k c d taps first w RA RB (by omega) (by omega))
      have Y := Lib.hid (fun W (hb : Below w.heap.size w W) => ref_Run A B n' k c d taps first W (RA.below (Nat.le_refl _) hb) (RB.below (Nat.le_refl _) hb) (by omega) (by omega))
      have i1 : ¬ (64 : Int) < (n' : Int) := by omega
      have i2 : ¬ (k : Int) < 0 := by omega
      have i3 : ¬ 64 < (k : Int) := by omega
      have k64 : k ≤ 64 := by omega
      clear RA RB l1 l2 h
      go_enter Try.func3, Try.ntmps3
      go_wp2_with fail
      refine X.out.mono ?_
      rintro e w1 ⟨C, g, rfl, R1, hb1⟩
      have R1 := Lib.hid R1
      go_wp2_with fail
      refine (Y.out _ hb1).mono ?_
      rintro e w2 ⟨D, f, rfl, R2, hb2⟩
      have R2 := Lib.hid R2
      go_wp2_with fail
      refine (ref_Bools C D k k g f _ _ w2 (R1.out.below (Nat.le_refl _) hb2) R2.out (by omega) (by omega)).mono ?_
      rintro e w3 ⟨rfl, hb3⟩
      go_wp2_with fail
      go_ret
      exact ⟨by simp, Lw.bt (Lw.bt hb1 hb2) hb3⟩
    · have X := Lib.hid (fun w => shift_Run_form A B n n' c d m w (by omega) (by omega) (by omega) hn)
      have i1 : ¬ (64 : Int) < (n : Int) := by omega
      have i2 : ¬ m < 0 := by omega
      have i3 : ¬ 64 < m := by omega
      have i4 : ((n' : Int) != (n : Int)) = true := by simp; omega
      clear h RA RB l1 l2 hn
      go_enter Try.func3, Try.ntmps3
      go_wp2_with fail
      refine (X.out _).mono ?_
      rintro e w' ⟨rfl, rfl⟩
      go_wp2
      go_ret
      exact ⟨rfl, Below.refl _ _⟩
end LW
end Go.Proofs.Ytnlbnadjolfjpaa

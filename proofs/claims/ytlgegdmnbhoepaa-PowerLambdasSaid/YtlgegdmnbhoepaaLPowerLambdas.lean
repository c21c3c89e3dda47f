/- The law PowerLambdas: power.Lambda is the reference's Lambda, or the code. -/
import Derived.Test.YtlgegdmnbhoepaaLmc
set_option linter.unusedVariables false
namespace Go.Proofs.Ytlgegdmnbhoepaa.LW
open Go.RowKit
theorem power_Lambda_bad (m : Int) (w : World) (h : m < 1 ∨ 1048576 < m) :
    Calls Try.prog 25 #[.int .i64 m] w fun e w' => e = .returned (.tuple #[.int .i64 0, .int .i64 2]) ∧ w = w' := by
  have hc : m < 1 ∨ (1 ≤ m ∧ 1048576 < m) := by omega
  clear h
  rcases hc with h | ⟨h, h'⟩
  all_goals
    go_enter Try.func25, Try.ntmps25
    go_wp2_with go_in
    go_ret2
    exact ⟨rfl, rfl⟩
theorem power_Lambda_ok (m : Nat) (w : World) (h1 : 1 ≤ m) (h2 : m ≤ 1048576) :
    Calls Try.prog 25 #[.int .i64 (m : Int)] w fun e w' => e = .returned (.tuple #[.int .i64 ((Lw.lamI m : Nat) : Int), .int .i64 0]) ∧ Below w.heap.size w w' := by
  have X := Lib.hid (fun w => power_lambda m w h1 h2)
  go_enter Try.func25, Try.ntmps25
  go_wp2_with (first | (go_at_call 66; (with_reducible refine (X.out _).mono ?_); rintro e w1 ⟨rfl, hb1⟩) | go_in)
  go_ret2
  exact ⟨rfl, hb1⟩
theorem PowerLambdas (m : Int) (w : World) (wp : (Lit.int .i64 m).wf = true) :
    Calls Try.prog 7 #[.int .i64 m] w fun e w' => e = .returned (.bool true) ∧ Below w.heap.size w w' := by
  clear wp
  by_cases h : m < 1 ∨ 1048576 < m
  · have E : Lw.modI m = 2 := if_pos h
    have X := Lib.hid (fun w => power_Lambda_bad m w h)
    clear h
    go_enter Try.func7, Try.ntmps7
    go_wp2_with (first | (go_at_call 25; (with_reducible refine (X.out _).mono ?_); rintro e w' ⟨rfl, rfl⟩) | (go_at_call 26; refine (law_modulus _ _).mono ?_; rintro e w' ⟨rfl, rfl⟩))
    go_ret
    exact ⟨by simp, Below.refl _ _⟩
  · have E : Lw.modI m = 0 := if_neg h
    obtain ⟨h1, h2⟩ : 1 ≤ m ∧ m ≤ 1048576 := by omega
    obtain ⟨n, rfl⟩ := Int.eq_ofNat_of_zero_le (by omega : 0 ≤ m)
    have X := Lib.hid (fun w => power_Lambda_ok n w (by omega) (by omega))
    have Y := Lib.hid (fun w => ref_Lambda n w (by omega) (by omega))
    clear h
    go_enter Try.func7, Try.ntmps7
    go_wp2_with (first | (go_at_call 25; (with_reducible refine (X.out _).mono ?_); rintro e w1 ⟨rfl, hb1⟩) | (go_at_call 26; refine (law_modulus _ _).mono ?_; rintro e w' ⟨rfl, rfl⟩) | (go_at_call 27; (with_reducible refine (Y.out _).mono ?_); rintro e w2 ⟨rfl, hb2⟩))
    go_ret
    exact ⟨by simp, Lw.bt hb1 hb2⟩
end Go.Proofs.Ytlgegdmnbhoepaa.LW

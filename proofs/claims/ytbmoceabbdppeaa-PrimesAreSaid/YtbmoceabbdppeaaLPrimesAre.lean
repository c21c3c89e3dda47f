/- The law PrimesAre: primes.Is tells what the reference tells. -/
import Derived.Test.YtbmoceabbdppeaaIs
import Derived.Test.YtbmoceabbdppeaaHelp
set_option linter.unusedVariables false
namespace Go.Proofs.Ytbmoceabbdppeaa.LW
open Go.RowKit
theorem PrimesAre (n : Int) (w : World) (wn : (Lit.int .i64 n).wf = true) :
    Calls Try.prog 10 #[.int .i64 n] w fun e w' => e = .returned (.bool true) ∧ Below w.heap.size w w' := by
  clear wn
  by_cases h : n < 1 ∨ 1048576 < n
  · have E : Lw.modI n = 2 := if_pos h
    have H := Lib.hid h
    clear h
    go_enter Try.func10, Try.ntmps10
    go_wp2_with (first | (go_at_call 32; refine (primes_Is_bad _ _ H.out).mono ?_; rintro e w1 ⟨rfl, hb1⟩; obtain ⟨hc1, hf1⟩ := Lw.bcell hb1) | (go_at_call 20; refine (law_modulus _ _).mono ?_; rintro e w' ⟨rfl, rfl⟩))
    go_ret
    exact ⟨by simp, Lw.bt (by go_grown) hb1⟩
  · have E : Lw.modI n = 0 := if_neg h
    obtain ⟨h1, h2⟩ : 1 ≤ n ∧ n ≤ 1048576 := by omega
    clear h
    go_enter Try.func10, Try.ntmps10
    go_wp2_with (first | (go_at_call 32; refine (primes_Is _ _ (by omega) (by omega)).mono ?_; rintro e w1 ⟨rfl, hb1⟩; obtain ⟨hc1, hf1⟩ := Lw.bcell hb1) | (go_at_call 20; refine (law_modulus _ _).mono ?_; rintro e w' ⟨rfl, rfl⟩) | (go_at_call 33; refine (ref_Is _ _ (by omega)).mono ?_; rintro e w' ⟨rfl, rfl⟩))
    go_ret
    exact ⟨by simp, Lw.bt (by go_grown) hb1⟩
end Go.Proofs.Ytbmoceabbdppeaa.LW

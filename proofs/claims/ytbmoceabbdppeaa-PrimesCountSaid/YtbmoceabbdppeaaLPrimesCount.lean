/- The law PrimesCount: primes.Phi is the reference's count. -/
import Derived.Test.YtbmoceabbdppeaaPhi
import Derived.Test.YtbmoceabbdppeaaHelp
set_option linter.unusedVariables false
namespace Go.Proofs.Ytbmoceabbdppeaa.LW
open Go.RowKit
theorem PrimesCount (n : Int) (w : World) (wn : (Lit.int .i64 n).wf = true) :
    Calls Try.prog 12 #[.int .i64 n] w fun e w' => e = .returned (.bool true) ∧ Below w.heap.size w w' := by
  clear wn
  by_cases h : n < 1 ∨ 1048576 < n
  · have E : Lw.modI n = 2 := if_pos h
    have H := Lib.hid h
    clear h
    go_enter Try.func12, Try.ntmps12
    go_wp2_with (first | (go_at_call 36; refine (primes_Phi_bad _ _ H.out).mono ?_; rintro e w1 ⟨rfl, hb1⟩; obtain ⟨hc1, hf1⟩ := Lw.bcell hb1) | (go_at_call 20; refine (law_modulus _ _).mono ?_; rintro e w' ⟨rfl, rfl⟩))
    go_ret
    exact ⟨by simp, Lw.bt (by go_grown) hb1⟩
  · have E : Lw.modI n = 0 := if_neg h
    obtain ⟨h1, h2⟩ : 1 ≤ n ∧ n ≤ 1048576 := by omega
    clear h
    go_enter Try.func12, Try.ntmps12
    go_wp2_with (first | (go_at_call 36; refine (primes_Phi _ _ (by omega) (by omega)).mono ?_; rintro e w1 ⟨rfl, hb1⟩; obtain ⟨hc1, hf1⟩ := Lw.bcell hb1) | (go_at_call 20; refine (law_modulus _ _).mono ?_; rintro e w' ⟨rfl, rfl⟩) | (go_at_call 37; refine (ref_Phi _ _ (by omega) (by omega)).mono ?_; rintro e w' ⟨rfl, rfl⟩))
    go_ret
    exact ⟨by simp, Lw.bt (by go_grown) hb1⟩
end Go.Proofs.Ytbmoceabbdppeaa.LW

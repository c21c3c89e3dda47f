/- The law PrimesSigns: primes.Mobius is the reference's Mobius. -/
import Derived.Test.YthejhpbbjjjmjaaMob
import Derived.Test.YthejhpbbjjjmjaaHelp
set_option linter.unusedVariables false
namespace Go.Proofs.Ythejhpbbjjjmjaa.LW
open Go.RowKit
theorem PrimesSigns (n : Int) (w : World) (wn : (Lit.int .i64 n).wf = true) :
    Calls Try.prog 3 #[.int .i64 n] w fun e w' => e = .returned (.bool true) ∧ Below w.heap.size w w' := by
  clear wn
  by_cases h : n < 1 ∨ 1048576 < n
  · have E : Lw.modI n = 2 := if_pos h
    have H := Lib.hid h
    clear h
    go_enter Try.func3, Try.ntmps3
    go_wp2_with (first | (go_at_call 15; refine (primes_Mobius_bad _ _ H.out).mono ?_; rintro e w1 ⟨rfl, hb1⟩; obtain ⟨hc1, hf1⟩ := Lw.bcell hb1) | (go_at_call 16; refine (law_modulus _ _).mono ?_; rintro e w' ⟨rfl, rfl⟩))
    go_ret
    exact ⟨by simp, Lw.bt (by go_grown) hb1⟩
  · have E : Lw.modI n = 0 := if_neg h
    obtain ⟨h1, h2⟩ : 1 ≤ n ∧ n ≤ 1048576 := by omega
    clear h
    go_enter Try.func3, Try.ntmps3
    go_wp2_with (first | (go_at_call 15; refine (primes_Mobius _ _ h1 h2).mono ?_; rintro e w1 ⟨rfl, hb1⟩; obtain ⟨hc1, hf1⟩ := Lw.bcell hb1) | (go_at_call 16; refine (law_modulus _ _).mono ?_; rintro e w' ⟨rfl, rfl⟩) | (go_at_call 17; refine (ref_Mobius _ _ h1 h2).mono ?_; rintro e w2 ⟨rfl, hb2⟩; obtain ⟨hc2, hf2⟩ := Lw.bcell hb2))
    go_ret
    exact ⟨by simp, Lw.bt hb1 hb2⟩
end Go.Proofs.Ythejhpbbjjjmjaa.LW

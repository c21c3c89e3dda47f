/- The law PrimesFactor: primes.Factor is the reference's list of factors. -/
import Derived.Test.YthejhpbbjjjmjaaFacProg
import Derived.Test.YthejhpbbjjjmjaaFacEq
import Derived.Test.YthejhpbbjjjmjaaHelp
set_option linter.unusedVariables false
namespace Go.Proofs.Ythejhpbbjjjmjaa.LW
open Go.RowKit
theorem PrimesFactor (n : Int) (w : World) (wn : (Lit.int .i64 n).wf = true) :
    Calls Try.prog 4 #[.int .i64 n] w fun e w' => e = .returned (.bool true) ∧ Below w.heap.size w w' := by
  clear wn
  by_cases h : n < 1 ∨ 1048576 < n
  · have E : Lw.modI n = 2 := if_pos h
    have H := Lib.hid h
    clear h
    go_enter Try.func4, Try.ntmps4
    go_wp2_with (first | (go_at_call 18; refine (primes_Factor_bad _ _ H.out).mono ?_; rintro e w' ⟨rfl, rfl⟩) | (go_at_call 16; refine (law_modulus _ _).mono ?_; rintro e w' ⟨rfl, rfl⟩))
    go_ret
    exact ⟨by simp, by go_grown⟩
  · have E : Lw.modI n = 0 := if_neg h
    obtain ⟨h1, h2⟩ : 1 ≤ n ∧ n ≤ 1048576 := by omega
    clear h
    have hlen : (Lw.fac n.toNat).length ≤ 1048576 := by have := Lw.fac_length_le n.toNat; omega
    go_enter Try.func4, Try.ntmps4
    go_wp2_with (first | (go_at_call 18; refine (primes_Factor n _ h1 h2).mono ?_; rintro e w1 ⟨⟨A, k, rfl, own⟩, hb1⟩; have R1 := Lib.hid (Lw.Rd.of_own own); clear own) | (go_at_call 16; refine (law_modulus _ _).mono ?_; rintro e w' ⟨rfl, rfl⟩) | (go_at_call 20; refine (ref_Factor n _ h1 h2).mono ?_; rintro e w2 ⟨A2, k2, rfl, own, hb2⟩; have R2 := Lib.hid (Lw.Rd.of_own own); have R1' := Lib.hid (R1.out.below (Nat.le_refl _) hb2); clear own) | (go_at_call 19; refine (ref_Powers _ _ _ _ _ _ _ R1'.out R2.out hlen).mono ?_; rintro e w3 ⟨rfl, d, rfl⟩))
    go_ret
    exact ⟨by simp, Lw.belowDrewN (Lw.bt hb1 hb2) d⟩
end Go.Proofs.Ythejhpbbjjjmjaa.LW

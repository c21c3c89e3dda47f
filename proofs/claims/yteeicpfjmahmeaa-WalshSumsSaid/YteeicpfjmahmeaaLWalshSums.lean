/- The law WalshSums: the sums of products are the reference's, or the code. -/
import Derived.Test.YteeicpfjmahmeaaWaa
set_option linter.unusedVariables false
namespace Go.Proofs.Yteeicpfjmahmeaa.LW
open Go.RowKit
theorem WalshSums (n f : Int) (w : World) (wn : (Lit.int .i64 n).wf = true) (wf : (Lit.int .u32 f).wf = true) :
    Calls Try.prog 4 #[.int .i64 n, .int .u32 f] w fun e w' => e = .returned (.bool true) ∧ Below w.heap.size w w' := by
  obtain ⟨n1, n2⟩ := bounds_i64 wn
  obtain ⟨f0, f1⟩ := bounds_u32 wf
  clear wn wf
  have FC := fun W => ref_FunctionCheck n f W (by omega) (by omega)
  by_cases h : Lw.okF n f
  · rw [decide_eq_true h] at FC
    replace FC := Lib.hid FC
    obtain ⟨h1, h2, h3⟩ := h
    obtain ⟨k, rfl⟩ := Int.eq_ofNat_of_zero_le h1
    rw [Int.toNat_natCast] at h3
    have X := Lib.hid (walsh_Anf_ok k f w (by omega) (by omega) (by omega) h3)
    have Y := Lib.hid (fun W => ref_Anf k f W (by omega) (by omega) (by omega))
    generalize Lw.packT (Lw.anfV f) (2 ^ k) = V at *
    clear h1 h2 h3
    go_enter Try.func4, Try.ntmps4
    go_wp2_with (first | (go_at_call 16; (with_reducible refine (X.out).mono ?_); rintro e w1 ⟨rfl, hb1⟩) | (go_at_call 14; (with_reducible refine (FC.out _).mono ?_); rintro e w' ⟨rfl, rfl⟩) | (go_at_call 17; (with_reducible refine (Y.out _).mono ?_); rintro e w' ⟨rfl, rfl⟩))
    go_ret
    exact ⟨by simp, hb1⟩
  · rw [decide_eq_false h] at FC
    replace FC := Lib.hid FC
    have X := Lib.hid (walsh_Anf_bad n f w (by omega) (by omega) (by omega) (by omega) h)
    clear h
    go_enter Try.func4, Try.ntmps4
    go_wp2_with (first | (go_at_call 16; (with_reducible refine (X.out).mono ?_); rintro e w1 ⟨rfl, rfl⟩) | (go_at_call 14; (with_reducible refine (FC.out _).mono ?_); rintro e w' ⟨rfl, rfl⟩))
    go_ret
    exact ⟨by simp, Below.refl _ _⟩
end Go.Proofs.Yteeicpfjmahmeaa.LW

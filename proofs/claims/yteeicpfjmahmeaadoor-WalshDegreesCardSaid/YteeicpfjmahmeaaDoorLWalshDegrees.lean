/- The law WalshDegrees: the degrees are the reference's, or the code. -/
import Derived.Test.YteeicpfjmahmeaaDoorWad
set_option linter.unusedVariables false
namespace Go.Proofs.YteeicpfjmahmeaaDoor.LW
open Go.RowKit
theorem WalshDegrees (n f : Int) (w : World) (wn : (Lit.int .i64 n).wf = true) (wf : (Lit.int .u32 f).wf = true) (hz : 0 < w.heap.size) (hT : ∀ i, i < 32 → w.cell? ⟨0, i, none⟩ = some (.int .u8 ((Lw.tabL.getD i 0 : Nat) : Int))) :
    Calls Tryd.prog 3 #[.int .i64 n, .int .u32 f] w fun e w' => e = .returned (.bool true) ∧ Below w.heap.size w w' := by
  obtain ⟨n1, n2⟩ := bounds_i64 wn
  obtain ⟨f0, f1⟩ := bounds_u32 wf
  clear wn wf
  have FC := fun W => ref_FunctionCheck n f W (by omega) (by omega)
  by_cases h : Lw.okF n f
  · rw [decide_eq_true h] at FC
    replace FC := Lib.hid FC
    obtain ⟨h1, h2, h3⟩ := h
    obtain ⟨k, rfl⟩ := Int.eq_ofNat_of_zero_le h1
    rw [Int.toNat_natCast] at h3
    have X := Lib.hid (walsh_Degree_ok k f w (by omega) (by omega) (by omega) h3 hz hT)
    have Y := Lib.hid (fun W => ref_Degree k f W (by omega) (by omega) (by omega))
    generalize Lw.dM (Lw.packT (Lw.anfV f) (2 ^ k)).toNat 32 = V at *
    clear h1 h2 h3 hT hz
    go_enter Tryd.func3, Tryd.ntmps3
    go_wp2_with (first | (go_at_call 4; (with_reducible refine (X.out).mono ?_); rintro e w1 ⟨rfl, hb1⟩) | (go_at_call 5; (with_reducible refine (FC.out _).mono ?_); rintro e w' ⟨rfl, rfl⟩) | (go_at_call 6; (with_reducible refine (Y.out _).mono ?_); rintro e w' ⟨rfl, rfl⟩))
    go_ret
    exact ⟨by simp, hb1⟩
  · rw [decide_eq_false h] at FC
    replace FC := Lib.hid FC
    have X := Lib.hid (walsh_Degree_bad n f w (by omega) (by omega) (by omega) (by omega) h)
    clear h hT hz
    go_enter Tryd.func3, Tryd.ntmps3
    go_wp2_with (first | (go_at_call 4; (with_reducible refine (X.out).mono ?_); rintro e w1 ⟨rfl, rfl⟩) | (go_at_call 5; (with_reducible refine (FC.out _).mono ?_); rintro e w' ⟨rfl, rfl⟩))
    go_ret
    exact ⟨by simp, Below.refl _ _⟩
end Go.Proofs.YteeicpfjmahmeaaDoor.LW

/- The law PadChecks: the program's code of a cipher is the reference's. -/
import Derived.Test.YteeicpfjmahmeaaPad4
set_option linter.unusedVariables false
namespace Go.Proofs.Yteeicpfjmahmeaa.LW
open Go.RowKit
theorem PadChecks (A : Option Addr) (n c : Nat) (w : World) (h : Lw.IsSl w [Lw.IsS w [Lw.IsI .i64]] A n c) :
    Calls Try.prog 5 #[.slice A n c] w fun e w' => e = .returned (.bool true) ∧ Below w.heap.size w w' := by
  obtain ⟨T, hT⟩ := Lw.tab_of h
  have X := Lib.hid (fun w h => pad_Check A n c T w h)
  have Y := Lib.hid (fun w h => ref_CipherCheck A n c T w h)
  have H := Lib.hid hT
  clear hT h
  go_enter Try.func5, Try.ntmps5
  go_wp2_with (first | (go_at_call 18; (with_reducible refine (X.out _ H.out).mono ?_); rintro e w1 ⟨rfl, hb1⟩) | (go_at_call 19; (with_reducible refine (Y.out _ (H.out.below (Nat.le_refl _) hb1)).mono ?_); rintro e w2 ⟨rfl, rfl⟩))
  go_ret
  exact ⟨by simp, hb1⟩
end Go.Proofs.Yteeicpfjmahmeaa.LW

/- The law FeistelReturns: when all are back is what the reference says, or the code. -/
import Derived.Test.YteeicpfjmahmeaaFep
set_option linter.unusedVariables false
namespace Go.Proofs.Yteeicpfjmahmeaa.LW
open Go.RowKit
theorem FeistelReturns (A : Option Addr) (n c : Nat) (w : World) (h : Lw.IsSl w [Lw.IsS w [Lw.IsI .i64]] A n c) :
    Calls Try.prog 12 #[.slice A n c] w fun e w' => e = .returned (.bool true) ∧ Below w.heap.size w w' := by
  obtain ⟨T, hT⟩ := Lw.tab_of h
  have X := Lib.hid (fun w h => ref_RoundsCheck A n c T 0 w h)
  have H := Lib.hid hT
  by_cases h0 : Lw.feiE T 0 = 0
  · have Y := Lib.hid (fun w h => feistel_Order_ok A n c T w h h0)
    obtain ⟨hR, hn, y0, y1⟩ := Lw.fei_ok hT h0
    have Z := Lib.hid (fun w h => ref_SealOrder A n c T w h hR hn)
    rw [h0] at X
    generalize Lw.ordN (Lw.sealN T) 256 = O at *
    clear hT h hR h0
    go_enter Try.func12, Try.ntmps12
    go_wp2_with (first | (go_at_call 31; (with_reducible refine (Y.out _ H.out).mono ?_); rintro e w1 ⟨rfl, hb1⟩) | (go_at_call 21; (with_reducible refine (X.out _ (H.out.below (Nat.le_refl _) hb1)).mono ?_); rintro e w2 ⟨rfl, rfl⟩) | (go_at_call 32; (with_reducible refine (Z.out _ (H.out.below (Nat.le_refl _) hb1)).mono ?_); rintro e w2 ⟨rfl, rfl⟩))
    go_ret
    exact ⟨by simp, hb1⟩
  · have Y := Lib.hid (fun w h => feistel_Order_bad A n c T w h h0)
    have h1 : (Lw.feiE T 0 == 0) = false := by simpa using h0
    clear hT h h0
    go_enter Try.func12, Try.ntmps12
    go_wp2_with (first | (go_at_call 31; (with_reducible refine (Y.out _ H.out).mono ?_); rintro e w1 ⟨rfl, rfl⟩) | (go_at_call 21; (with_reducible refine (X.out _ H.out).mono ?_); rintro e w2 ⟨rfl, rfl⟩))
    go_ret
    exact ⟨by simp, Below.refl _ _⟩
end Go.Proofs.Yteeicpfjmahmeaa.LW

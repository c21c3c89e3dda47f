/- The law FeistelSeals: what a number becomes is what the reference says, or the code. -/
import Derived.Test.YteeicpfjmahmeaaFei3
set_option linter.unusedVariables false
namespace Go.Proofs.Yteeicpfjmahmeaa.LW
open Go.RowKit
theorem FeistelSeals (A : Option Addr) (n c : Nat) (y : Int) (w : World) (h : Lw.IsSl w [Lw.IsS w [Lw.IsI .i64]] A n c) (wy : (Lit.int .i64 y).wf = true) :
    Calls Try.prog 6 #[.slice A n c, .int .i64 y] w fun e w' => e = .returned (.bool true) ∧ Below w.heap.size w w' := by
  obtain ⟨T, hT⟩ := Lw.tab_of h
  have X := Lib.hid (fun w h => ref_RoundsCheck A n c T y w h)
  have H := Lib.hid hT
  by_cases h0 : Lw.feiE T y = 0
  · have Y := Lib.hid (fun w h => feistel_Seal_ok A n c T y w h h0)
    obtain ⟨hR, hn, y0, y1⟩ := Lw.fei_ok hT h0
    have Z := Lib.hid (fun w h => ref_Seal A n c T y w h hR hn y0 y1)
    rw [h0] at X
    clear hT h hR h0
    go_enter Try.func6, Try.ntmps6
    go_wp2_with (first | (go_at_call 20; (with_reducible refine (Y.out _ H.out).mono ?_); rintro e w1 ⟨rfl, hb1⟩) | (go_at_call 21; (with_reducible refine (X.out _ (H.out.below (Nat.le_refl _) hb1)).mono ?_); rintro e w2 ⟨rfl, rfl⟩) | (go_at_call 22; (with_reducible refine (Z.out _ (H.out.below (Nat.le_refl _) hb1)).mono ?_); rintro e w2 ⟨rfl, rfl⟩))
    go_ret
    exact ⟨by simp, hb1⟩
  · have Y := Lib.hid (fun w h => feistel_Seal_bad A n c T y w h h0)
    have h1 : (Lw.feiE T y == 0) = false := by simpa using h0
    clear hT h h0
    go_enter Try.func6, Try.ntmps6
    go_wp2_with (first | (go_at_call 20; (with_reducible refine (Y.out _ H.out).mono ?_); rintro e w1 ⟨rfl, rfl⟩) | (go_at_call 21; (with_reducible refine (X.out _ H.out).mono ?_); rintro e w2 ⟨rfl, rfl⟩))
    go_ret
    exact ⟨by simp, Below.refl _ _⟩
end Go.Proofs.Yteeicpfjmahmeaa.LW

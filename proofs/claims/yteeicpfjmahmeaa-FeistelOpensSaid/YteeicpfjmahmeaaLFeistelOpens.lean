/- The law FeistelOpens: what is opened becomes, sealed, what it was; or the code. -/
import Derived.Test.YteeicpfjmahmeaaFei4
set_option linter.unusedVariables false
namespace Go.Proofs.Yteeicpfjmahmeaa.LW
open Go.RowKit
theorem FeistelOpens (A : Option Addr) (n c : Nat) (y : Int) (w : World) (h : Lw.IsSl w [Lw.IsS w [Lw.IsI .i64]] A n c) (wy : (Lit.int .i64 y).wf = true) :
    Calls Try.prog 8 #[.slice A n c, .int .i64 y] w fun e w' => e = .returned (.bool true) ∧ Below w.heap.size w w' := by
  obtain ⟨T, hT⟩ := Lw.tab_of h
  have X := Lib.hid (fun w h => ref_RoundsCheck A n c T y w h)
  have H := Lib.hid hT
  by_cases h0 : Lw.feiE T y = 0
  · have Y := fun w h => feistel_Open_ok A n c T y w h h0
    obtain ⟨hR, hn, y0, y1⟩ := Lw.fei_ok hT h0
    have hp := Lw.fopen_half hR (Lw.halves_half (x := y) (by omega))
    have hb := Lw.num_bd hp
    have e1 : Lw.num (Lw.fseal T (Lw.halves (Lw.num (Lw.fopen T (Lw.halves y))))) = y := by rw [Lw.halves_num hp, Lw.fseal_open, Lw.num_halves y0]
    obtain ⟨x, hx⟩ : ∃ x, Lw.num (Lw.fopen T (Lw.halves y)) = x := ⟨_, rfl⟩
    rw [hx] at Y e1 hb
    obtain ⟨x0, x1⟩ := hb
    have Z := fun w h => ref_Seal A n c T x w h hR hn x0 (by omega)
    rw [e1] at Z
    replace Z := Lib.hid Z
    replace Y := Lib.hid Y
    rw [h0] at X
    clear hT h hR h0 hx hp e1
    go_enter Try.func8, Try.ntmps8
    go_wp2_with (first | (go_at_call 25; (with_reducible refine (Y.out _ H.out).mono ?_); rintro e w1 ⟨rfl, hb1⟩) | (go_at_call 21; (with_reducible refine (X.out _ (H.out.below (Nat.le_refl _) hb1)).mono ?_); rintro e w2 ⟨rfl, rfl⟩) | (go_at_call 22; (with_reducible refine (Z.out _ (H.out.below (Nat.le_refl _) hb1)).mono ?_); rintro e w2 ⟨rfl, rfl⟩))
    go_ret
    exact ⟨by simp, hb1⟩
  · have Y := Lib.hid (fun w h => feistel_Open_bad A n c T y w h h0)
    have h1 : (Lw.feiE T y == 0) = false := by simpa using h0
    clear hT h h0
    go_enter Try.func8, Try.ntmps8
    go_wp2_with (first | (go_at_call 25; (with_reducible refine (Y.out _ H.out).mono ?_); rintro e w1 ⟨rfl, hb1⟩) | (go_at_call 21; (with_reducible refine (X.out _ (H.out.below (Nat.le_refl _) hb1)).mono ?_); rintro e w2 ⟨rfl, rfl⟩))
    go_ret
    exact ⟨by simp, hb1⟩
end Go.Proofs.Yteeicpfjmahmeaa.LW

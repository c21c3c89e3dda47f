/- The law PadPerfect: all columns tell the same numbers as often, or the code. -/
import Derived.Test.YteeicpfjmahmeaaPas
set_option linter.unusedVariables false
namespace Go.Proofs.Yteeicpfjmahmeaa.LW
open Go.RowKit
set_option maxHeartbeats 1000000 in
theorem PadPerfect (A : Option Addr) (n c : Nat) (w : World) (h : Lw.IsSl w [Lw.IsS w [Lw.IsI .i64]] A n c) :
    Calls Try.prog 11 #[.slice A n c] w fun e w' => e = .returned (.bool true) ∧ Below w.heap.size w w' := by
  obtain ⟨T, hT⟩ := Lw.tab_of h
  clear h
  have CC := fun W (hb : Below w.heap.size w W) => ref_CipherCheck A n c T W (hT.below (Nat.le_refl w.heap.size) hb)
  by_cases h0 : Lw.cipE T = 0
  · rw [h0] at CC
    replace CC := Lib.hid CC
    obtain ⟨U, u1, u2, u3, u4, u5⟩ := Lw.rectOf h0
    have X := Lib.hid (pad_Perfect A n c U T w hT h0 u1 u2 u3 u4 u5)
    have Y := Lib.hid (fun W (hb : Below w.heap.size w W) => ref_Perfect A n c U T W (hT.below (Nat.le_refl w.heap.size) hb) (by rw [← hT.len]; exact u4) u2 u5)
    rw [propext (Lw.perf_ref (T := T) u1)] at X
    generalize Lw.RefP T U T.length = Q at *
    clear hT h0
    go_enter Try.func11, Try.ntmps11
    go_wp2_with fail
    refine X.out.mono ?_
    intro e w1 hX
    obtain ⟨⟨r, rfl, hr⟩, hb1⟩ := hX
    have HR := Lib.hid hr
    clear hr
    go_wp2_with fail
    refine (CC.out _ hb1).mono ?_
    rintro e w' ⟨rfl, rfl⟩
    go_wp2_with fail
    refine (Y.out _ hb1).mono ?_
    intro e w2 hY
    obtain ⟨⟨r', rfl, hr'⟩, d, rfl⟩ := hY
    have : r = r' := by
      rw [Bool.eq_iff_iff]
      exact HR.out.trans hr'.symm
    subst this
    clear hr'
    go_wp2_with fail
    go_ret
    exact ⟨by simp, Lw.bdrewN hb1 _⟩
  · have X := Lib.hid (pad_Perfect_bad A n c T w hT h0)
    have z : (Lw.cipE T != 0) = true := by simpa using h0
    have z' : (Lw.cipE T == 0) = false := by simpa using h0
    replace CC := Lib.hid CC
    generalize Lw.cipE T = E at *
    clear hT h0
    go_enter Try.func11, Try.ntmps11
    go_wp2_with fail
    refine X.out.mono ?_
    rintro e w1 ⟨rfl, hb1⟩
    go_wp2_with fail
    refine (CC.out _ hb1).mono ?_
    rintro e w' ⟨rfl, rfl⟩
    go_wp2_with fail
    go_ret
    exact ⟨by simp, hb1⟩
end Go.Proofs.Yteeicpfjmahmeaa.LW

/- The law WalshImmune: few waves are 0 exactly if the reference's counts are even, or the code. -/
import Derived.Test.YteeicpfjmahmeaaWaj
set_option linter.unusedVariables false
namespace Go.Proofs.Yteeicpfjmahmeaa.LW
open Go.RowKit
set_option maxHeartbeats 1000000 in
theorem WalshImmune (n f k : Int) (w : World) (wn : (Lit.int .i64 n).wf = true) (wf : (Lit.int .u32 f).wf = true) (wk : (Lit.int .i64 k).wf = true) :
    Calls Try.prog 10 #[.int .i64 n, .int .u32 f, .int .i64 k] w fun e w' => e = .returned (.bool true) ∧ Below w.heap.size w w' := by
  obtain ⟨n1, n2⟩ := bounds_i64 wn
  obtain ⟨f0, f1⟩ := bounds_u32 wf
  obtain ⟨k1, k2⟩ := bounds_i64 wk
  clear wn wf wk
  have FC := fun W => ref_FunctionCheck n f W (by omega) (by omega)
  by_cases h : Lw.okF n f
  · rw [decide_eq_true h] at FC
    replace FC := Lib.hid FC
    obtain ⟨h1, h2, h3⟩ := h
    obtain ⟨m, rfl⟩ := Int.eq_ofNat_of_zero_le h1
    rw [Int.toNat_natCast] at h3
    by_cases hk : k < 0 ∨ (m : Int) < k
    · have X := Lib.hid (walsh_Immune_k m f k w (by omega) (by omega) (by omega) h3 hk)
      clear h3
      rcases (by omega : k < 0 ∨ (¬ k < 0 ∧ (m : Int) < k)) with h | ⟨h, h4⟩
      · clear hk
        go_enter Try.func10, Try.ntmps10
        go_wp2_with (first | (go_at_call 27; (with_reducible refine (X.out).mono ?_); rintro e w1 ⟨rfl, hb1⟩) | (go_at_call 14; (with_reducible refine (FC.out _).mono ?_); rintro e w' ⟨rfl, rfl⟩))
        go_ret
        exact ⟨by simp, hb1⟩
      · clear hk
        go_enter Try.func10, Try.ntmps10
        go_wp2_with (first | (go_at_call 27; (with_reducible refine (X.out).mono ?_); rintro e w1 ⟨rfl, hb1⟩) | (go_at_call 14; (with_reducible refine (FC.out _).mono ?_); rintro e w' ⟨rfl, rfl⟩))
        go_ret
        exact ⟨by simp, hb1⟩
    · obtain ⟨j, rfl⟩ := Int.eq_ofNat_of_zero_le (by omega : 0 ≤ k)
      have X := Lib.hid (walsh_Immune_ok m f j w (by omega) (by omega) (by omega) h3 (by omega))
      have Y := Lib.hid (fun W => ref_Immune m f j W (by omega) (by omega) (by omega) (by omega))
      have EQ := Lib.hid (Lw.xiao_massey (n := m) (f := f) (k := j) (by omega) (by omega))
      have b1 : ¬ (j : Int) < 0 := by omega
      have b2 : ¬ (m : Int) < (j : Int) := by omega
      have b3 : ¬ m < j := by omega
      clear h1 h2 h3 hk
      go_enter Try.func10, Try.ntmps10
      go_wp2_with fail
      refine X.out.mono ?_
      intro e w1 hX
      obtain ⟨⟨r, rfl, hr⟩, hb1⟩ := hX
      have HR := Lib.hid hr
      clear hr
      go_wp2_with fail
      refine (FC.out _).mono ?_
      rintro e w' ⟨rfl, rfl⟩
      go_wp2_with fail
      refine (Y.out _).mono ?_
      intro e w2 hY
      obtain ⟨⟨r', rfl, hr'⟩, rfl⟩ := hY
      have : r = r' := by
        rw [Bool.eq_iff_iff]
        exact HR.out.trans (EQ.out.trans hr'.symm)
      subst this
      clear hr'
      go_wp2_with fail
      go_ret
      exact ⟨by simp, hb1⟩
  · rw [decide_eq_false h] at FC
    replace FC := Lib.hid FC
    have X := Lib.hid (walsh_Immune_bad n f k w (by omega) (by omega) (by omega) (by omega) h)
    clear h
    go_enter Try.func10, Try.ntmps10
    go_wp2_with (first | (go_at_call 27; (with_reducible refine (X.out).mono ?_); rintro e w1 ⟨rfl, hb1⟩) | (go_at_call 14; (with_reducible refine (FC.out _).mono ?_); rintro e w' ⟨rfl, rfl⟩))
    go_ret
    exact ⟨by simp, hb1⟩
end Go.Proofs.Yteeicpfjmahmeaa.LW

/- The law WalshWaves: the waves are the reference's sums, or the code. -/
import Derived.Test.YteeicpfjmahmeaaWas
set_option linter.unusedVariables false
namespace Go.Proofs.Yteeicpfjmahmeaa.LW
open Go.RowKit
set_option maxRecDepth 100000 in
set_option maxHeartbeats 2000000 in
theorem WalshWaves (n f : Int) (w : World) (wn : (Lit.int .i64 n).wf = true) (wf : (Lit.int .u32 f).wf = true) :
    Calls Try.prog 3 #[.int .i64 n, .int .u32 f] w fun e w' => e = .returned (.bool true) ∧ Below w.heap.size w w' := by
  obtain ⟨n1, n2⟩ := bounds_i64 wn
  obtain ⟨f0, f1⟩ := bounds_u32 wf
  clear wn wf
  have FC := fun W => ref_FunctionCheck n f W (by omega) (by omega)
  by_cases h : Lw.okF n f
  · rw [decide_eq_true h] at FC
    replace FC := Lib.hid FC
    obtain ⟨h1, h2, h3⟩ := h
    obtain ⟨k, rfl⟩ := Int.eq_ofNat_of_zero_le h1
    rw [Int.toNat_natCast] at h3
    have X := Lib.hid (walsh_Waves_ok k f w (by omega) (by omega) (by omega) h3)
    rw [Lw.wave_eq (by omega)] at X
    have Y := Lib.hid (fun W => ref_Waves k f W (by omega) (by omega) (by omega))
    have N32 := Lw.pow_32 k (by omega)
    have LN := Lw.rowF_length (N := 2 ^ k) (g := Lw.waveR k f)
    generalize Lw.rowF (2 ^ k) (Lw.waveR k f) = V at *
    obtain ⟨N, hN⟩ : ∃ N, 2 ^ k = N := ⟨_, rfl⟩
    rw [hN] at X Y N32 LN
    obtain ⟨N1, N2⟩ := N32
    have LN := Lib.hid LN
    clear h1 h2 h3 hN
    go_enter Try.func3, Try.ntmps3
    go_wp2_with fail
    refine X.out.mono ?_
    rintro e w1 ⟨rfl, R1, hb1⟩
    go_wp2_with fail
    refine (FC.out _).mono ?_
    rintro e w' ⟨rfl, rfl⟩
    go_wp2_with fail
    refine (Y.out _).mono ?_
    rintro e w2 ⟨C, c, rfl, R2, hb2⟩
    have hB := Lw.bt hb1 hb2
    have R1 := Lib.hid (R1.below (Nat.le_refl _) hb2)
    have R2 := Lib.hid R2
    have ne : ((N : Int) != (N : Int)) = false := by simp
    clear X Y FC
    go_wp2_with fail
    go_loopw [8] (fun i wr => ∃ k d : Nat, i = .int .i64 (k : Int) ∧ k ≤ N ∧ wr = w2.drewN d) (fun i _ => N - (intOf i).toNat)
    case atStart => exact ⟨0, 0, rfl, by omega, rfl⟩
    case round =>
      obtain ⟨k, d, rfl, k1, rfl⟩ := hrel
      by_cases hlt : k < N
      · have hk : k < V.length := by rw [LN.out]; exact hlt
        obtain ⟨ad, e1, had, c0⟩ := R1.out.at1 hlt (Lw.intsV_get hk)
        injection e1 with e1
        subst e1
        obtain ⟨ae, rfl, hae, e0⟩ := R2.out.at1 hlt (Lw.intsV_get hk)
        obtain ⟨x, hx⟩ : ∃ x, V[k] = x := ⟨_, rfl⟩
        rw [hx] at c0 e0
        have c0 : w2.cell? ⟨w.heap.size, k, none⟩ = some (.int .i64 x) := by
          by_cases hk0 : k = 0
          · subst hk0; simpa [Addr.add] using c0
          · simpa [Addr.add, hk0] using c0
        clear hx hk
        go_wp2
        go_quiet (fail)
        go_wp2
        go_roundw
        case rel => exact ⟨k + 1, _, by go_num, by omega, rfl⟩
        case measure => simp [intOf]; omega
      · go_wp2
        go_ret
        exact ⟨rfl, Lw.bdrewN hB _⟩
  · rw [decide_eq_false h] at FC
    replace FC := Lib.hid FC
    have X := Lib.hid (walsh_Waves_bad n f w (by omega) (by omega) (by omega) (by omega) h)
    clear h
    go_enter Try.func3, Try.ntmps3
    go_wp2_with fail
    refine X.out.mono ?_
    rintro e w1 ⟨rfl, rfl⟩
    go_wp2_with fail
    refine (FC.out _).mono ?_
    rintro e w' ⟨rfl, rfl⟩
    go_wp2_with fail
    go_ret
    exact ⟨rfl, Below.refl _ _⟩
end Go.Proofs.Yteeicpfjmahmeaa.LW

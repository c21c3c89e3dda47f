/- Contracts of euclid.Lcm and of the reference's Lcm. -/
import Derived.Test.YtlgegdmnbhoepaaEuc
namespace Lw
def lcmI (a b : Int) : Int := if a = 0 ∨ b = 0 then 0 else absI a / gcdI a b * absI b
theorem lcmI_zero {a b : Int} (h : a = 0 ∨ b = 0) : lcmI a b = 0 := if_pos h
theorem lcmI_pos {a b : Int} (h : ¬ (a = 0 ∨ b = 0)) : lcmI a b = absI a / gcdI a b * absI b := if_neg h
theorem absI_tdiv {a g : Int} (hg : 0 < g) : absI (a.tdiv g) = absI a / g := by
  unfold absI
  rw [Int.natAbs_tdiv]
  have : ((a.natAbs.div g.natAbs : Nat) : Int) = ((a.natAbs / g.natAbs : Nat) : Int) := rfl
  rw [this, Int.natCast_ediv]
  congr 1
  omega
theorem lcm_prog {a b : Int} (h : 0 < gcdI a b) : absI (a.tdiv (gcdI a b) * b) = lcmI a b := by
  rw [absI_mul, absI_tdiv h]
  by_cases h0 : a = 0 ∨ b = 0
  · rw [lcmI_zero h0]
    rcases h0 with rfl | rfl <;> simp [absI]
  · rw [lcmI_pos h0]
theorem lcm_bd {a b : Int} (h : 0 < gcdI a b) (ha : absI a ≤ 2147483648) (hb : absI b ≤ 2147483648) :
    (-2147483648 ≤ a.tdiv (gcdI a b) ∧ a.tdiv (gcdI a b) ≤ 2147483648) ∧ (-4611686018427387904 ≤ a.tdiv (gcdI a b) * b ∧ a.tdiv (gcdI a b) * b ≤ 4611686018427387904) := by
  have h1 : absI (a.tdiv (gcdI a b)) ≤ 2147483648 := by
    rw [absI_tdiv h]
    have := Int.ediv_le_self (gcdI a b) (absI_nonneg a)
    omega
  have h2 := (mul_bd' _ _ 2147483648 (absI_nonneg _) h1 (absI_nonneg b) hb).2
  rw [← absI_mul] at h2
  exact ⟨absI_le h1, absI_le (by omega)⟩
theorem gcdI_zero {a b : Int} (h : gcdI a b = 0) : a = 0 ∧ b = 0 := by
  have h1 := gcdI_dvd_left a b
  have h2 := gcdI_dvd_right a b
  rw [h] at h1 h2
  exact ⟨Int.zero_dvd.1 h1, Int.zero_dvd.1 h2⟩
end Lw
set_option linter.unusedVariables false
set_option linter.unusedSimpArgs false
namespace Go.Proofs.Ytlgegdmnbhoepaa
open Go.RowKit
theorem euclid_Lcm_bad (a b : Int) (w : World) (h : Lw.farB a = true ∨ Lw.farB b = true) :
    Calls Try.prog 120 #[.int .i64 a, .int .i64 b] w fun e w' => e = .returned (.tuple #[.int .i64 0, .int .i64 2]) ∧ Below w.heap.size w w' := by
  have H := Lib.hid h
  clear h
  go_enter Try.func120, Try.ntmps120
  go_wp2_with (go_at_call 162; refine (euclid_Gcd_bad _ _ _ H.out).mono ?_; rintro e w1 ⟨rfl, hb1⟩; obtain ⟨hc1, hf1⟩ := Lw.bcell hb1)
  go_ret2
  exact ⟨rfl, Lw.bt (by go_grown) hb1⟩

theorem euclid_Lcm (a b : Int) (w : World) (ha : Lw.farB a = false) (hb : Lw.farB b = false) :
    Calls Try.prog 120 #[.int .i64 a, .int .i64 b] w fun e w' => e = .returned (.tuple #[.int .i64 (Lw.lcmI a b), .int .i64 0]) ∧ Below w.heap.size w w' := by
  obtain ⟨a1, a2⟩ := Lw.of_farB_false ha
  obtain ⟨b1, b2⟩ := Lw.of_farB_false hb
  have HA := Lib.hid ha
  have HB := Lib.hid hb
  clear ha hb
  by_cases h : Lw.gcdI a b = 0
  · obtain ⟨rfl, rfl⟩ := Lw.gcdI_zero h
    have E := Lib.hid (Lw.lcmI_zero (a := 0) (b := 0) (.inl rfl))
    go_enter Try.func120, Try.ntmps120
    go_wp2_with (go_at_call 162; refine (euclid_Gcd _ _ _ HA.out HB.out).mono ?_; rintro e w1 ⟨rfl, hb1⟩; obtain ⟨hc1, hf1⟩ := Lw.bcell hb1)
    go_ret2
    rw [E.out]
    exact ⟨rfl, Lw.bt (by go_grown) hb1⟩
  · have h0 : 0 < Lw.gcdI a b := by have := Lw.gcdI_nonneg a b; omega
    have hb0 : (Lw.gcdI a b == 0) = false := by simpa using h
    obtain ⟨⟨q1, q2⟩, q3, q4⟩ := Lw.lcm_bd h0 (by unfold Lw.absI; omega) (by unfold Lw.absI; omega)
    have E := Lib.hid (Lw.lcm_prog h0)
    go_enter Try.func120, Try.ntmps120
    go_wp2_with (first | (go_at_call 162; refine (euclid_Gcd _ _ _ HA.out HB.out).mono ?_; rintro e w1 ⟨rfl, hb1⟩; obtain ⟨hc1, hf1⟩ := Lw.bcell hb1) | (go_at_call 163; refine (euclid_abs _ _ (by omega) (by omega)).mono ?_; rintro e w' ⟨rfl, rfl⟩))
    go_ret2
    rw [E.out]
    exact ⟨rfl, Lw.bt (by go_grown) hb1⟩
theorem ref_Lcm (a b : Int) (w : World) (a1 : -2147483648 ≤ a) (a2 : a ≤ 2147483648) (b1 : -2147483648 ≤ b) (b2 : b ≤ 2147483648) :
    Calls Try.prog 68 #[.int .i64 a, .int .i64 b] w fun e w' => e = .returned (.int .i64 (Lw.lcmI a b)) ∧ ∃ n, w' = w.drewN n := by
  have hc : (a = 0 ∧ Lw.lcmI a b = 0) ∨ (¬ a = 0 ∧ b = 0 ∧ Lw.lcmI a b = 0) ∨ (¬ a = 0 ∧ ¬ b = 0 ∧ Lw.lcmI a b = Lw.absI a / Lw.gcdI a b * Lw.absI b) := by
    by_cases h : a = 0
    · exact .inl ⟨h, Lw.lcmI_zero (.inl h)⟩
    · by_cases h2 : b = 0
      · exact .inr (.inl ⟨h, h2, Lw.lcmI_zero (.inr h2)⟩)
      · exact .inr (.inr ⟨h, h2, Lw.lcmI_pos (by omega)⟩)
  rcases hc with ⟨rfl, E⟩ | ⟨h, rfl, E⟩ | ⟨h, h2, E⟩
  · have E := Lib.hid E
    go_enter Try.func68, Try.ntmps68
    go_wp2
    go_ret
    rw [E.out]; exact ⟨rfl, 0, rfl⟩
  · have E := Lib.hid E
    have h' : (a == 0) = false := by simpa using h
    go_enter Try.func68, Try.ntmps68
    go_wp2
    go_ret
    rw [E.out]; exact ⟨rfl, 0, rfl⟩
  · have E := Lib.hid E
    have h' : (a == 0) = false := by simpa using h
    have h2' : (b == 0) = false := by simpa using h2
    have hg : 0 < Lw.gcdI a b := Lw.gcdI_pos (.inl h)
    have hq := Int.ediv_le_self (Lw.gcdI a b) (Lw.absI_nonneg a)
    have hq0 : 0 ≤ Lw.absI a / Lw.gcdI a b := Int.ediv_nonneg (Lw.absI_nonneg a) (by omega)
    have hA : 0 ≤ Lw.absI a ∧ Lw.absI a ≤ 2147483648 ∧ 0 ≤ Lw.absI b ∧ Lw.absI b ≤ 2147483648 := by unfold Lw.absI; omega
    obtain ⟨A1, A2, B1, B2⟩ := hA
    obtain ⟨m1, m2⟩ := Lw.mul_bd' (Lw.absI a / Lw.gcdI a b) (Lw.absI b) 2147483648 hq0 (by omega) B1 B2
    clear h h2
    go_enter Try.func68, Try.ntmps68
    go_wp2
    go_quiet ((first | (go_at_call 121; exact Lw.quiet (ref_Abs _ _ (by omega) (by omega))) | (go_at_call 122; exact Lw.quiet (ref_Gcd _ _ _ (by omega) (by omega) (by omega) (by omega)))))
    go_wp2
    go_ret
    rw [E.out]; exact ⟨rfl, _, rfl⟩
end Go.Proofs.Ytlgegdmnbhoepaa

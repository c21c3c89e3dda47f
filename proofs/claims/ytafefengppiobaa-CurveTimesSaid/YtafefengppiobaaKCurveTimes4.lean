/-
  Curves: what may be one; curve.Check and the reference's CurveCheck.
  Curves: spots; curve.mod, curve.right, curve.has and the reference's Spot.
  Curves: curve.spots; curve.neg, curve.Neg, the reference's SpotNeg; the statements' spot.
  Curves: neg, Neg, SpotNeg, and the statements' spot.
  The statements' spot: the code of a curve and a spot.
  Curves, plain: quotients and sums by a prime.
  Curves: add.
  Curves: the reference's over and SpotAdd.
-/
import Derived.Test.YtafefengppiobaaKCurveTimes3
import Derived.Test.YtafefengppiobaaKCurveTimes1
namespace Lw
/-- the discriminant, by P -/
def disc (P A B : Int) : Int := (4 * (A * A * A) + 27 * (B * B)) % P
def crvR (P A B : Int) : Prop := 5 ≤ P ∧ P ≤ 1009 ∧ 0 ≤ A ∧ A < P ∧ 0 ≤ B ∧ B < P
instance (P A B : Int) : Decidable (crvR P A B) := inferInstanceAs (Decidable (_ ∧ _ ∧ _ ∧ _ ∧ _ ∧ _))
def crvE (P A B : Int) : Int := if ¬ crvR P A B then 2 else if primeB P = false ∨ disc P A B = 0 then 3 else 0
theorem crv_range {P A B : Int} (h : ¬ crvR P A B) : crvE P A B = 2 := if_pos h
theorem crv_arg {P A B : Int} (h : crvR P A B) (h2 : primeB P = false ∨ disc P A B = 0) : crvE P A B = 3 := by unfold crvE; rw [if_neg (by simpa using h), if_pos h2]
theorem crv_ok {P A B : Int} (h : crvR P A B) (h1 : primeB P = true) (h2 : ¬ disc P A B = 0) : crvE P A B = 0 := by unfold crvE; rw [if_neg (by simpa using h), if_neg (by rw [h1]; simp [h2])]
theorem of_crv {P A B : Int} (h : crvE P A B = 0) : crvR P A B ∧ primeB P = true ∧ ¬ disc P A B = 0 := by
  unfold crvE at h
  split at h
  · simp at h
  · rename_i h1
    split at h
    · simp at h
    · rename_i h2
      refine ⟨by simpa using h1, ?_, fun e => h2 (.inr e)⟩
      cases hp : primeB P
      · exact absurd (.inl hp) h2
      · rfl
theorem disc_prog (P A B : Int) : (4 * A * A % P * A + 27 * B * B) % P = disc P A B := by
  unfold disc
  rw [Int.add_emod, Int.mul_emod (4 * A * A % P), Int.emod_emod, ← Int.mul_emod, ← Int.add_emod]
  congr 1
  grind
theorem disc_ref (P A B : Int) : (4 * pw A 3 P + 27 * pw B 2 P) % P = disc P A B := by
  unfold disc pw
  rw [Int.add_emod, Int.mul_emod 4, Int.emod_emod, ← Int.mul_emod, Int.mul_emod 27, Int.emod_emod, ← Int.mul_emod, ← Int.add_emod]
  congr 1
  rw [show Int.toNat 3 = 3 from rfl, show Int.toNat 2 = 2 from rfl]
  grind
theorem disc_bds {P A B : Int} (h : crvR P A B) : 0 ≤ 4 * A * A ∧ 4 * A * A ≤ 4096000 ∧ 0 ≤ 4 * A * A % P * A ∧ 4 * A * A % P * A ≤ 1024000 ∧ 0 ≤ 27 * B * B ∧ 27 * B * B ≤ 27648000 := by
  obtain ⟨h1, h2, h3, h4, h5, h6⟩ := h
  have a1 := (mul_bd' A A 1009 h3 (by omega) h3 (by omega))
  have b1 := (mul_bd' B B 1009 h5 (by omega) h5 (by omega))
  have r0 := Int.emod_nonneg (4 * A * A) (by omega : P ≠ 0)
  have r1 := Int.emod_lt_of_pos (4 * A * A) (by omega : 0 < P)
  have c1 := (mul_bd' (4 * A * A % P) A 1009 r0 (by omega) h3 (by omega))
  have e1 : 4 * A * A = 4 * (A * A) := Int.mul_assoc 4 A A
  have e2 : 27 * B * B = 27 * (B * B) := Int.mul_assoc 27 B B
  omega
theorem range_cases {P A B : Int} (h : ¬ crvR P A B) : P < 5 ∨ (5 ≤ P ∧ 1009 < P) ∨ (5 ≤ P ∧ P ≤ 1009 ∧ A < 0) ∨ (5 ≤ P ∧ P ≤ 1009 ∧ 0 ≤ A ∧ P ≤ A) ∨ (5 ≤ P ∧ P ≤ 1009 ∧ 0 ≤ A ∧ A < P ∧ B < 0) ∨ (5 ≤ P ∧ P ≤ 1009 ∧ 0 ≤ A ∧ A < P ∧ 0 ≤ B ∧ P ≤ B) := by
  unfold crvR at h; omega
end Lw
set_option linter.unusedVariables false
set_option linter.unusedSimpArgs false
namespace Go.Proofs.Ytafefengppiobaa
open Go.RowKit
set_option maxHeartbeats 2000000 in
theorem curve_Check_range (P A B : Int) (w : World) (h : ¬ Lw.crvR P A B) :
    Calls Try.prog 22 #[.agg #[.int .i64 P, .int .i64 A, .int .i64 B]] w fun e w' => e = .returned (.int .i64 (Lw.crvE P A B)) ∧ Below w.heap.size w w' := by
  have E := Lib.hid (Lw.crv_range h)
  have hc := Lw.range_cases h
  clear h
  have hAB : A ≤ B ∨ B < A := by omega
  rcases hAB with hAB | hAB
  all_goals
    rcases hc with h1 | ⟨h1, h2⟩ | ⟨h1, h2, h3⟩ | ⟨h1, h2, h3, h4⟩ | ⟨h1, h2, h3, h4, h5⟩ | ⟨h1, h2, h3, h4, h5, h6⟩
    all_goals
      go_enter Try.func22, Try.ntmps22
      go_wp2
      all_goals (try (exfalso; omega))
      all_goals
        go_ret
        exact ⟨Lw.ret_int E.out.symm, by (repeat (first | exact Below.refl _ _ | refine Lw.bt ?_ (by assumption) | refine Lw.balloc ?_ _ | refine Lw.bdrewN ?_ _ | refine Below.drew ?_ | refine Lw.bset ?_ (by first | (simp; done) | (simp; omega) | omega) _))⟩
set_option maxHeartbeats 2000000 in
theorem curve_Check_in (P A B : Int) (w : World) (h : Lw.crvR P A B) :
    Calls Try.prog 22 #[.agg #[.int .i64 P, .int .i64 A, .int .i64 B]] w fun e w' => e = .returned (.int .i64 (Lw.crvE P A B)) ∧ Below w.heap.size w w' := by
  have HR := Lib.hid h
  obtain ⟨q1, q2, q3, q4, q5, q6⟩ := Lw.disc_bds h
  have D := Lib.hid (Lw.disc_prog P A B)
  obtain ⟨h1, h2, h3, h4, h5, h6⟩ := h
  have hP0 : ¬ P = 0 := by omega
  have e1 : (4 * A * A).tmod P = 4 * A * A % P := Int.tmod_eq_emod_of_nonneg q1
  have e2 : (4 * A * A % P * A + 27 * B * B).tmod P = Lw.disc P A B := by rw [Int.tmod_eq_emod_of_nonneg (by omega), D.out]
  have e3 : IntKind.i64.wrap (4 * A * A) = 4 * A * A := by rw [IntKind.wrap_i64]; omega
  have e4 : IntKind.i64.wrap (4 * A * A % P * A) = 4 * A * A % P * A := by rw [IntKind.wrap_i64]; omega
  have e5 : IntKind.i64.wrap (27 * B * B) = 27 * B * B := by rw [IntKind.wrap_i64]; omega
  have e6 : IntKind.i64.wrap (4 * A * A % P * A + 27 * B * B) = 4 * A * A % P * A + 27 * B * B := by rw [IntKind.wrap_i64]; omega
  have PI := Lib.hid (fun w => primes_Is P w (by omega) (by omega))
  have hAB : A ≤ B ∨ B < A := by omega
  have d0 := Int.emod_nonneg (4 * (A * A * A) + 27 * (B * B)) hP0
  have d1 := Int.emod_lt_of_pos (4 * (A * A * A) + 27 * (B * B)) (by omega : 0 < P)
  have hD0 : 0 ≤ Lw.disc P A B ∧ Lw.disc P A B < P := ⟨d0, d1⟩
  clear d0 d1
  obtain ⟨hd0, hd1⟩ := hD0
  have E := Lib.hid (show ∀ b, Lw.primeB P = b → Lw.crvE P A B = if b = false ∨ Lw.disc P A B = 0 then 3 else 0 from fun b hb => by unfold Lw.crvE; rw [if_neg (by simpa using HR.out), hb])
  rcases hp : Lw.primeB P with _ | _
  · have PJ := fun w => PI.out w
    rw [hp] at PJ
    replace PJ := Lib.hid PJ
    have E1 : Hid (Lw.crvE P A B = 3) := by rw [E.out _ hp]; simp [Hid]
    clear PI hp E
    rcases hAB with hAB | hAB
    all_goals
      go_enter Try.func22, Try.ntmps22
      go_wp2_with (go_at_call 33; (with_reducible refine (PJ.out _).mono ?_); rintro e w1 ⟨rfl, hb1⟩; obtain ⟨hc1, hf1⟩ := Lw.bcell hb1; have hz1 := hb1.size; (try simp at hz1); have hy1_00 : w.heap.size < w1.heap.size := (by omega); have hy1_01 : w.heap.size < w1.heap.size + 1 := (by omega); have hy1_02 : w.heap.size < w1.heap.size + 1 + 1 := (by omega))
      all_goals (try (exfalso; omega))
      all_goals
        go_quiet (fail)
        go_wp2
        go_ret
        exact ⟨Lw.ret_int E1.out.symm, by (repeat (first | exact Below.refl _ _ | refine Lw.bt ?_ (by assumption) | refine Lw.balloc ?_ _ | refine Lw.bdrewN ?_ _ | refine Below.drew ?_ | refine Lw.bset ?_ (by first | (simp; done) | (simp; omega) | omega) _))⟩
  · have PJ := fun w => PI.out w
    rw [hp] at PJ
    replace PJ := Lib.hid PJ
    have E1 : Hid (Lw.crvE P A B = if Lw.disc P A B = 0 then 3 else 0) := by rw [E.out _ hp]; simp [Hid]
    clear PI hp E
    by_cases hd : Lw.disc P A B = 0
    · rw [if_pos hd] at E1
      rw [hd] at e2
      rcases hAB with hAB | hAB
      all_goals
        go_enter Try.func22, Try.ntmps22
        go_wp2_with (go_at_call 33; (with_reducible refine (PJ.out _).mono ?_); rintro e w1 ⟨rfl, hb1⟩; obtain ⟨hc1, hf1⟩ := Lw.bcell hb1; have hz1 := hb1.size; (try simp at hz1); have hy1_00 : w.heap.size < w1.heap.size := (by omega); have hy1_01 : w.heap.size < w1.heap.size + 1 := (by omega); have hy1_02 : w.heap.size < w1.heap.size + 1 + 1 := (by omega))
        all_goals (try (exfalso; omega))
        all_goals
          go_quiet (fail)
          go_wp2
          go_ret
          exact ⟨Lw.ret_int E1.out.symm, by (repeat (first | exact Below.refl _ _ | refine Lw.bt ?_ (by assumption) | refine Lw.balloc ?_ _ | refine Lw.bdrewN ?_ _ | refine Below.drew ?_ | refine Lw.bset ?_ (by first | (simp; done) | (simp; omega) | omega) _))⟩
    · rw [if_neg hd] at E1
      have hd2 : (Lw.disc P A B == 0) = false := by simpa using hd
      rcases hAB with hAB | hAB
      all_goals
        go_enter Try.func22, Try.ntmps22
        go_wp2_with (go_at_call 33; (with_reducible refine (PJ.out _).mono ?_); rintro e w1 ⟨rfl, hb1⟩; obtain ⟨hc1, hf1⟩ := Lw.bcell hb1; have hz1 := hb1.size; (try simp at hz1); have hy1_00 : w.heap.size < w1.heap.size := (by omega); have hy1_01 : w.heap.size < w1.heap.size + 1 := (by omega); have hy1_02 : w.heap.size < w1.heap.size + 1 + 1 := (by omega))
        all_goals (try (exfalso; omega))
        all_goals
          go_quiet (fail)
          go_wp2
          go_ret
          exact ⟨Lw.ret_int E1.out.symm, by (repeat (first | exact Below.refl _ _ | refine Lw.bt ?_ (by assumption) | refine Lw.balloc ?_ _ | refine Lw.bdrewN ?_ _ | refine Below.drew ?_ | refine Lw.bset ?_ (by first | (simp; done) | (simp; omega) | omega) _))⟩
theorem curve_Check (P A B : Int) (w : World) :
    Calls Try.prog 22 #[.agg #[.int .i64 P, .int .i64 A, .int .i64 B]] w fun e w' => e = .returned (.int .i64 (Lw.crvE P A B)) ∧ Below w.heap.size w w' := by
  by_cases h : Lw.crvR P A B
  · exact curve_Check_in P A B w h
  · exact curve_Check_range P A B w h
set_option maxHeartbeats 2000000 in
theorem ref_CurveCheck_range (P A B : Int) (w : World) (h : ¬ Lw.crvR P A B) :
    Calls Try.prog 16 #[.agg #[.int .i64 P, .int .i64 A, .int .i64 B]] w fun e w' => e = .returned (.int .i64 (Lw.crvE P A B)) ∧ Below w.heap.size w w' := by
  have E := Lib.hid (Lw.crv_range h)
  have hc := Lw.range_cases h
  clear h
  rcases hc with h1 | ⟨h1, h2⟩ | ⟨h1, h2, h3⟩ | ⟨h1, h2, h3, h4⟩ | ⟨h1, h2, h3, h4, h5⟩ | ⟨h1, h2, h3, h4, h5, h6⟩
  all_goals
    go_enter Try.func16, Try.ntmps16
    go_wp2
    go_ret
    exact ⟨Lw.ret_int E.out.symm, by (repeat (first | exact Below.refl _ _ | refine Lw.bt ?_ (by assumption) | refine Lw.balloc ?_ _ | refine Lw.bdrewN ?_ _ | refine Below.drew ?_ | refine Lw.bset ?_ (by first | (simp; done) | (simp; omega) | omega) _))⟩
set_option maxHeartbeats 2000000 in
theorem ref_CurveCheck_in (P A B : Int) (w : World) (h : Lw.crvR P A B) :
    Calls Try.prog 16 #[.agg #[.int .i64 P, .int .i64 A, .int .i64 B]] w fun e w' => e = .returned (.int .i64 (Lw.crvE P A B)) ∧ Below w.heap.size w w' := by
  have HR := Lib.hid h
  have D := Lib.hid (Lw.disc_ref P A B)
  obtain ⟨h1, h2, h3, h4, h5, h6⟩ := h
  have hP0 : ¬ P = 0 := by omega
  have PI := Lib.hid (fun w => ref_Is P w (by omega))
  have X3 := Lib.hid (fun w => ref_Pow _ A 3 P w (Nat.le_refl _) (by omega) (by omega) (by omega) (by omega))
  have X2 := Lib.hid (fun w => ref_Pow _ B 2 P w (Nat.le_refl _) (by omega) (by omega) (by omega) (by omega))
  obtain ⟨a1, a2⟩ := Lw.pw_bd A 3 P (by omega)
  obtain ⟨b1, b2⟩ := Lw.pw_bd B 2 P (by omega)
  have d0 := Int.emod_nonneg (4 * (A * A * A) + 27 * (B * B)) hP0
  have d1 := Int.emod_lt_of_pos (4 * (A * A * A) + 27 * (B * B)) (by omega : 0 < P)
  have hD0 : 0 ≤ Lw.disc P A B ∧ Lw.disc P A B < P := ⟨d0, d1⟩
  clear d0 d1
  obtain ⟨hd0, hd1⟩ := hD0
  have X4 := fun w => ref_Mod (4 * Lw.pw A 3 P + 27 * Lw.pw B 2 P) P w (by omega) (by omega)
  rw [D.out] at X4
  replace X4 := Lib.hid X4
  have E := Lib.hid (show ∀ b, Lw.primeB P = b → Lw.crvE P A B = if b = false ∨ Lw.disc P A B = 0 then 3 else 0 from fun b hb => by unfold Lw.crvE; rw [if_neg (by simpa using HR.out), hb])
  rcases hp : Lw.primeB P with _ | _
  · have PJ := fun w => PI.out w
    rw [hp] at PJ
    replace PJ := Lib.hid PJ
    have E1 : Hid (Lw.crvE P A B = 3) := by rw [E.out _ hp]; simp [Hid]
    clear PI hp E
    go_enter Try.func16, Try.ntmps16
    go_wp2_with fail
    go_quiet ((go_at_call 27; exact Lw.quiet (PJ.out _)))
    go_wp2
    go_ret
    exact ⟨Lw.ret_int E1.out.symm, by (repeat (first | exact Below.refl _ _ | refine Lw.bt ?_ (by assumption) | refine Lw.balloc ?_ _ | refine Lw.bdrewN ?_ _ | refine Below.drew ?_ | refine Lw.bset ?_ (by first | (simp; done) | (simp; omega) | omega) _))⟩
  · have PJ := fun w => PI.out w
    rw [hp] at PJ
    replace PJ := Lib.hid PJ
    have E1 : Hid (Lw.crvE P A B = if Lw.disc P A B = 0 then 3 else 0) := by rw [E.out _ hp]; simp [Hid]
    clear PI hp E
    by_cases hd : Lw.disc P A B = 0
    · rw [if_pos hd] at E1
      have X5 := X4.out
      rw [hd] at X5
      replace X5 := Lib.hid X5
      go_enter Try.func16, Try.ntmps16
      go_wp2_with fail
      go_quiet ((first | (go_at_call 27; exact Lw.quiet (PJ.out _)) | (go_at_call 29; first | with_reducible exact Lw.quiet (X3.out _) | with_reducible exact Lw.quiet (X2.out _)) | (go_at_call 28; exact Lw.quiet (X5.out _))))
      go_wp2
      go_ret
      exact ⟨Lw.ret_int E1.out.symm, by (repeat (first | exact Below.refl _ _ | refine Lw.bt ?_ (by assumption) | refine Lw.balloc ?_ _ | refine Lw.bdrewN ?_ _ | refine Below.drew ?_ | refine Lw.bset ?_ (by first | (simp; done) | (simp; omega) | omega) _))⟩
    · rw [if_neg hd] at E1
      have hd2 : (Lw.disc P A B == 0) = false := by simpa using hd
      go_enter Try.func16, Try.ntmps16
      go_wp2_with fail
      go_quiet ((first | (go_at_call 27; exact Lw.quiet (PJ.out _)) | (go_at_call 29; first | with_reducible exact Lw.quiet (X3.out _) | with_reducible exact Lw.quiet (X2.out _)) | (go_at_call 28; exact Lw.quiet (X4.out _))))
      go_wp2
      go_ret
      exact ⟨Lw.ret_int E1.out.symm, by (repeat (first | exact Below.refl _ _ | refine Lw.bt ?_ (by assumption) | refine Lw.balloc ?_ _ | refine Lw.bdrewN ?_ _ | refine Below.drew ?_ | refine Lw.bset ?_ (by first | (simp; done) | (simp; omega) | omega) _))⟩
theorem ref_CurveCheck (P A B : Int) (w : World) :
    Calls Try.prog 16 #[.agg #[.int .i64 P, .int .i64 A, .int .i64 B]] w fun e w' => e = .returned (.int .i64 (Lw.crvE P A B)) ∧ Below w.heap.size w w' := by
  by_cases h : Lw.crvR P A B
  · exact ref_CurveCheck_in P A B w h
  · exact ref_CurveCheck_range P A B w h
end Go.Proofs.Ytafefengppiobaa
namespace Lw
def rhs (P A B X : Int) : Int := (X * X * X + A * X + B) % P
def inP (P X Y : Int) : Prop := 0 ≤ X ∧ X < P ∧ 0 ≤ Y ∧ Y < P
instance (P X Y : Int) : Decidable (inP P X Y) := inferInstanceAs (Decidable (_ ∧ _ ∧ _ ∧ _))
/-- is it a spot? -/
def spotB (P A B X Y : Int) (F : Bool) : Bool := if F then decide (X = 0 ∧ Y = 0) else decide (inP P X Y ∧ Y * Y % P = rhs P A B X)
theorem emod_eq_of {a b P : Int} (k : Int) (h : a = b + P * k) : a % P = b % P := by rw [h, Int.add_mul_emod_self_left]
theorem emod_sub_q (x P : Int) : ∃ q, x % P = x - P * q := ⟨x / P, Int.emod_def x P⟩
theorem emod_zero_of {a b P : Int} (h : a % P = b % P) : ∃ k, a = b + P * k := ⟨a / P - b / P, by have h1 := Int.emod_add_mul_ediv a P; have h2 := Int.emod_add_mul_ediv b P; grind⟩
theorem rhs_prog {P A B X : Int} : ((X * X % P + A) * X % P + B) % P = rhs P A B X := by
  unfold rhs
  obtain ⟨q, h⟩ := emod_sub_q (X * X) P
  rw [h]
  obtain ⟨r, h2⟩ := emod_sub_q ((X * X - P * q + A) * X) P
  rw [h2]
  exact emod_eq_of (-(q * X) - r) (by grind)
theorem rhs_ref {P A B X Y : Int} : (Y * Y - pw X 3 P - A * X - B) % P = 0 ↔ Y * Y % P = rhs P A B X := by
  unfold rhs pw
  rw [show Int.toNat 3 = 3 from rfl]
  obtain ⟨q, h⟩ := emod_sub_q (X ^ 3) P
  rw [h]
  have e : (Y * Y - (X ^ 3 - P * q) - A * X - B) % P = (Y * Y - (X * X * X + A * X + B)) % P := emod_eq_of q (by grind)
  rw [e]
  exact Int.emod_eq_emod_iff_emod_sub_eq_zero.symm
end Lw
set_option linter.unusedVariables false
set_option linter.unusedSimpArgs false
namespace Go.Proofs.Ytafefengppiobaa
open Go.RowKit
theorem curve_mod (P A B a : Int) (w : World) (h1 : 0 < P) (h2 : P ≤ 1009) :
    Calls Try.prog 26 #[.agg #[.int .i64 P, .int .i64 A, .int .i64 B], .int .i64 a] w fun e w' => e = .returned (.int .i64 (a % P)) ∧ Below w.heap.size w w' := by
  go_enter Try.func26, Try.ntmps26
  go_wp2_with (go_at_call 36; refine (euclid_Mod _ _ _ (by omega) (by omega)).mono ?_; rintro e w' ⟨rfl, rfl⟩)
  go_ret
  exact ⟨rfl, by (repeat (first | exact Below.refl _ _ | refine Lw.bt ?_ (by assumption) | refine Lw.balloc ?_ _ | refine Lw.bdrewN ?_ _ | refine Below.drew ?_ | refine Lw.bset ?_ (by first | (simp; done) | (simp; omega) | omega) _))⟩
set_option maxHeartbeats 1000000 in
theorem curve_right (P A B X : Int) (w : World) (h : Lw.crvR P A B) (x0 : 0 ≤ X) (x1 : X < P) :
    Calls Try.prog 34 #[.agg #[.int .i64 P, .int .i64 A, .int .i64 B], .int .i64 X] w fun e w' => e = .returned (.int .i64 (Lw.rhs P A B X)) ∧ Below w.heap.size w w' := by
  obtain ⟨h1, h2, h3, h4, h5, h6⟩ := h
  have hP0 : ¬ P = 0 := by omega
  obtain ⟨m0, m1⟩ := Lw.mul_bd' X X 1009 x0 (by omega) x0 (by omega)
  have r0 := Int.emod_nonneg (X * X) hP0
  have r1 := Int.emod_lt_of_pos (X * X) (by omega : 0 < P)
  obtain ⟨n0, n1⟩ := Lw.mul_bd' (X * X % P + A) X 2018 (by omega) (by omega) x0 (by omega)
  have s0 := Int.emod_nonneg ((X * X % P + A) * X) hP0
  have s1 := Int.emod_lt_of_pos ((X * X % P + A) * X) (by omega : 0 < P)
  have e1 : IntKind.i64.wrap (X * X) = X * X := by rw [IntKind.wrap_i64]; omega
  have e2 : (X * X).tmod P = X * X % P := Int.tmod_eq_emod_of_nonneg m0
  have e3 : IntKind.i64.wrap (X * X % P + A) = X * X % P + A := by rw [IntKind.wrap_i64]; omega
  have e4 : IntKind.i64.wrap ((X * X % P + A) * X) = (X * X % P + A) * X := by rw [IntKind.wrap_i64]; omega
  have e5 : ((X * X % P + A) * X).tmod P = (X * X % P + A) * X % P := Int.tmod_eq_emod_of_nonneg n0
  have e6 : IntKind.i64.wrap ((X * X % P + A) * X % P + B) = (X * X % P + A) * X % P + B := by rw [IntKind.wrap_i64]; omega
  have M := fun w => curve_mod P A B ((X * X % P + A) * X % P + B) w (by omega) h2
  rw [Lw.rhs_prog] at M
  replace M := Lib.hid M
  obtain ⟨W, hW⟩ : ∃ W, w.alloc (.cells #[.int .i64 P, .int .i64 A, .int .i64 B] 44) = W := ⟨_, rfl⟩
  have B0 := show W.heap[w.heap.size]? = some (.cells #[.int .i64 P, .int .i64 A, .int .i64 B] 44 (0, 0)) from hW ▸ Lw.blk_new _ _ _
  have l0 := Lw.blk_cell B0 0; have l1 := Lw.blk_cell B0 1; have l2 := Lw.blk_cell B0 2
  simp at l0 l1 l2
  have hBW : Below w.heap.size w W := by rw [← hW]; exact Lw.balloc (Below.refl _ _) _
  have hWs : w.heap.size < W.heap.size := by rw [← hW]; simp
  have HW := Lib.hid hW
  clear hW B0
  go_enter Try.func34, Try.ntmps34
  go_wp2_with fail
  rw [HW.out]
  refine wp_region_held_drew (S := Lw.Sm W) (by kernel_rfl) (Lw.sm_drew W) (fun hHeld => ?_)
  (refine Lw.take1 (i := 0) (v := ?_) rfl (by kernel_rfl) (by kernel_rfl) (by kernel_rfl) (fun _ _ _ h => h) (Or.inl ⟨by rfl, ?_⟩) (by assumption) ?_; rotate_left 1; (focus (intro wS hSw; obtain ⟨hS1, hS2, hS3, hS4⟩ := hSw; go_simp <;> with_reducible rfl)); (try simp only [Act.put, List.setIfInBounds_toArray, List.set_cons_zero, List.set_cons_succ]))
  (refine Lw.take1 (i := 1) (v := ?_) rfl (by kernel_rfl) (by kernel_rfl) (by kernel_rfl) (fun _ _ _ h => h) (Or.inl ⟨by rfl, ?_⟩) (by assumption) ?_; rotate_left 1; (focus (intro wS hSw; obtain ⟨hS1, hS2, hS3, hS4⟩ := hSw; go_simp <;> with_reducible rfl)); (try simp only [Act.put, List.setIfInBounds_toArray, List.set_cons_zero, List.set_cons_succ]))
  (refine Lw.take1 (i := 2) (v := ?_) rfl (by kernel_rfl) (by kernel_rfl) (by kernel_rfl) (fun _ _ _ h => h) (Or.inl ⟨by rfl, ?_⟩) (by assumption) ?_; rotate_left 1; (focus (intro wS hSw; obtain ⟨hS1, hS2, hS3, hS4⟩ := hSw; go_simp <;> with_reducible rfl)); (try simp only [Act.put, List.setIfInBounds_toArray, List.set_cons_zero, List.set_cons_succ]))
  (refine Lw.take1 (i := 3) (v := ?_) rfl (by kernel_rfl) (by kernel_rfl) (by kernel_rfl) (fun _ _ _ h => h) (Or.inl ⟨by rfl, ?_⟩) (by assumption) ?_; rotate_left 1; (focus (intro wS hSw; obtain ⟨hS1, hS2, hS3, hS4⟩ := hSw; go_simp <;> with_reducible rfl)); (try simp only [Act.put, List.setIfInBounds_toArray, List.set_cons_zero, List.set_cons_succ]))
  (refine Lw.take1 (i := 4) (v := ?_) rfl (by kernel_rfl) (by kernel_rfl) (by kernel_rfl) (fun _ _ _ h => h) (Or.inl ⟨by rfl, ?_⟩) (by assumption) ?_; rotate_left 1; (focus (intro wS hSw; obtain ⟨hS1, hS2, hS3, hS4⟩ := hSw; go_simp <;> with_reducible rfl)); (try simp only [Act.put, List.setIfInBounds_toArray, List.set_cons_zero, List.set_cons_succ]))
  (refine Lw.take1 (i := 5) (v := ?_) rfl (by kernel_rfl) (by kernel_rfl) (by kernel_rfl) (fun _ _ _ h => h) (Or.inl ⟨by rfl, ?_⟩) (by assumption) ?_; rotate_left 1; (focus (intro wS hSw; obtain ⟨hS1, hS2, hS3, hS4⟩ := hSw; go_simp <;> with_reducible rfl)); (try simp only [Act.put, List.setIfInBounds_toArray, List.set_cons_zero, List.set_cons_succ]))
  (refine Lw.take1 (i := 6) (v := ?_) rfl (by kernel_rfl) (by kernel_rfl) (by kernel_rfl) (fun _ _ _ h => h) (Or.inl ⟨by rfl, ?_⟩) (by assumption) ?_; rotate_left 1; (focus (intro wS hSw; obtain ⟨hS1, hS2, hS3, hS4⟩ := hSw; go_simp <;> with_reducible rfl)); (try simp only [Act.put, List.setIfInBounds_toArray, List.set_cons_zero, List.set_cons_succ]))
  (refine Lw.take1 (i := 7) (v := ?_) rfl (by kernel_rfl) (by kernel_rfl) (by kernel_rfl) (fun _ _ _ h => h) (Or.inl ⟨by rfl, ?_⟩) (by assumption) ?_; rotate_left 1; (focus (intro wS hSw; obtain ⟨hS1, hS2, hS3, hS4⟩ := hSw; go_simp <;> with_reducible rfl)); (try simp only [Act.put, List.setIfInBounds_toArray, List.set_cons_zero, List.set_cons_succ]))
  (refine Lw.take1 (i := 8) (v := ?_) rfl (by kernel_rfl) (by kernel_rfl) (by kernel_rfl) (fun _ _ _ h => h) (Or.inl ⟨by rfl, ?_⟩) (by assumption) ?_; rotate_left 1; (focus (intro wS hSw; obtain ⟨hS1, hS2, hS3, hS4⟩ := hSw; go_simp <;> with_reducible rfl)); (try simp only [Act.put, List.setIfInBounds_toArray, List.set_cons_zero, List.set_cons_succ]))
  (refine Lw.take1 (i := 9) (v := ?_) rfl (by kernel_rfl) (by kernel_rfl) (by kernel_rfl) (fun _ _ _ h => h) (Or.inl ⟨by rfl, ?_⟩) (by assumption) ?_; rotate_left 1; (focus (intro wS hSw; obtain ⟨hS1, hS2, hS3, hS4⟩ := hSw; go_simp <;> with_reducible rfl)); (try simp only [Act.put, List.setIfInBounds_toArray, List.set_cons_zero, List.set_cons_succ]))
  (refine Lw.take1 (i := 10) (v := ?_) rfl (by kernel_rfl) (by kernel_rfl) (by kernel_rfl) (fun _ _ _ h => h) (Or.inl ⟨by rfl, ?_⟩) (by assumption) ?_; rotate_left 1; (focus (intro wS hSw; obtain ⟨hS1, hS2, hS3, hS4⟩ := hSw; go_simp <;> with_reducible rfl)); (try simp only [Act.put, List.setIfInBounds_toArray, List.set_cons_zero, List.set_cons_succ]))
  (refine Lw.take1 (i := 11) (v := ?_) rfl (by kernel_rfl) (by kernel_rfl) (by kernel_rfl) (fun _ _ _ h => h) (Or.inl ⟨by rfl, ?_⟩) (by assumption) ?_; rotate_left 1; (focus (intro wS hSw; obtain ⟨hS1, hS2, hS3, hS4⟩ := hSw; go_simp <;> with_reducible rfl)); (try simp only [Act.put, List.setIfInBounds_toArray, List.set_cons_zero, List.set_cons_succ]))
  (refine Lw.take1 (i := 12) (v := ?_) rfl (by kernel_rfl) (by kernel_rfl) (by kernel_rfl) (fun _ _ _ h => h) (Or.inl ⟨by rfl, ?_⟩) (by assumption) ?_; rotate_left 1; (focus (intro wS hSw; obtain ⟨hS1, hS2, hS3, hS4⟩ := hSw; go_simp <;> with_reducible rfl)); (try simp only [Act.put, List.setIfInBounds_toArray, List.set_cons_zero, List.set_cons_succ]))
  (refine Lw.take1 (i := 13) (v := ?_) rfl (by kernel_rfl) (by kernel_rfl) (by kernel_rfl) (fun _ _ _ h => h) (Or.inl ⟨by rfl, ?_⟩) (by assumption) ?_; rotate_left 1; (focus (intro wS hSw; obtain ⟨hS1, hS2, hS3, hS4⟩ := hSw; go_simp <;> with_reducible rfl)); (try simp only [Act.put, List.setIfInBounds_toArray, List.set_cons_zero, List.set_cons_succ]))
  (refine Lw.take1 (i := 14) (v := ?_) rfl (by kernel_rfl) (by kernel_rfl) (by kernel_rfl) (fun _ _ _ h => h) (Or.inl ⟨by rfl, ?_⟩) (by assumption) ?_; rotate_left 1; (focus (intro wS hSw; obtain ⟨hS1, hS2, hS3, hS4⟩ := hSw; go_simp <;> with_reducible rfl)); (try simp only [Act.put, List.setIfInBounds_toArray, List.set_cons_zero, List.set_cons_succ]))
  (refine Lw.take1 (i := 15) (v := ?_) rfl (by kernel_rfl) (by kernel_rfl) (by kernel_rfl) (fun _ _ _ h => h) (Or.inl ⟨by rfl, ?_⟩) (by assumption) ?_; rotate_left 1; (focus (intro wS hSw; obtain ⟨hS1, hS2, hS3, hS4⟩ := hSw; go_simp <;> with_reducible rfl)); (try simp only [Act.put, List.setIfInBounds_toArray, List.set_cons_zero, List.set_cons_succ]))
  (refine Lw.take1 (i := 16) (v := ?_) rfl (by kernel_rfl) (by kernel_rfl) (by kernel_rfl) (fun _ _ _ h => h) (Or.inl ⟨by rfl, ?_⟩) (by assumption) ?_; rotate_left 1; (focus (intro wS hSw; obtain ⟨hS1, hS2, hS3, hS4⟩ := hSw; go_simp <;> with_reducible rfl)); (try simp only [Act.put, List.setIfInBounds_toArray, List.set_cons_zero, List.set_cons_succ]))
  (refine Lw.take1 (i := 17) (v := ?_) rfl (by kernel_rfl) (by kernel_rfl) (by kernel_rfl) (fun _ _ _ h => h) (Or.inl ⟨by rfl, ?_⟩) (by assumption) ?_; rotate_left 1; (focus (intro wS hSw; obtain ⟨hS1, hS2, hS3, hS4⟩ := hSw; go_simp <;> with_reducible rfl)); (try simp only [Act.put, List.setIfInBounds_toArray, List.set_cons_zero, List.set_cons_succ]))
  (refine Lw.take1 (i := 18) (v := ?_) rfl (by kernel_rfl) (by kernel_rfl) (by kernel_rfl) (fun _ _ _ h => h) (Or.inl ⟨by rfl, ?_⟩) (by assumption) ?_; rotate_left 1; (focus (intro wS hSw; obtain ⟨hS1, hS2, hS3, hS4⟩ := hSw; go_simp <;> with_reducible rfl)); (try simp only [Act.put, List.setIfInBounds_toArray, List.set_cons_zero, List.set_cons_succ]))
  (refine Lw.take1 (i := 19) (v := ?_) rfl (by kernel_rfl) (by kernel_rfl) (by kernel_rfl) (fun _ _ _ h => h) (Or.inl ⟨by rfl, ?_⟩) (by assumption) ?_; rotate_left 1; (focus (intro wS hSw; obtain ⟨hS1, hS2, hS3, hS4⟩ := hSw; go_simp <;> with_reducible rfl)); (try simp only [Act.put, List.setIfInBounds_toArray, List.set_cons_zero, List.set_cons_succ]))
  (refine Lw.take1 (i := 20) (v := ?_) rfl (by kernel_rfl) (by kernel_rfl) (by kernel_rfl) (fun _ _ _ h => h) (Or.inl ⟨by rfl, ?_⟩) (by assumption) ?_; rotate_left 1; (focus (intro wS hSw; obtain ⟨hS1, hS2, hS3, hS4⟩ := hSw; go_simp <;> with_reducible rfl)); (try simp only [Act.put, List.setIfInBounds_toArray, List.set_cons_zero, List.set_cons_succ]))
  (refine Lw.take1 (i := 21) (v := ?_) rfl (by kernel_rfl) (by kernel_rfl) (by kernel_rfl) (fun _ _ _ h => h) (Or.inl ⟨by rfl, ?_⟩) (by assumption) ?_; rotate_left 1; (focus (intro wS hSw; obtain ⟨hS1, hS2, hS3, hS4⟩ := hSw; go_simp <;> with_reducible rfl)); (try simp only [Act.put, List.setIfInBounds_toArray, List.set_cons_zero, List.set_cons_succ]))
  (refine wpAnyH_ready (rs := [22]) (by kernel_rfl) (by simp) ?_; refine Lw.cons1 (i := 22) rfl (fun K hK => ?_) AllReadyH.nil; go_simp; go_at_call 26; (with_reducible refine (M.out _).mono ?_); rintro e wx ⟨rfl, hbx⟩; refine hK.out _ _ ?_ (fun hHeld => ?_); (focus exact Lw.sm_keep (Lw.sm_drew W) hbx); clear hK K; (try simp only [Act.put, List.setIfInBounds_toArray, List.set_cons_zero, List.set_cons_succ]))
  (refine Lw.take1 (i := 23) (v := ?_) rfl (by kernel_rfl) (by kernel_rfl) (by kernel_rfl) (fun _ _ _ h => h) (Or.inl ⟨by rfl, ?_⟩) (by assumption) ?_; rotate_left 1; (focus (intro wS hSw; obtain ⟨hS1, hS2, hS3, hS4⟩ := hSw; go_simp <;> with_reducible rfl)); (try simp only [Act.put, List.setIfInBounds_toArray, List.set_cons_zero, List.set_cons_succ]))
  refine wpAnyH_done (by kernel_rfl) ?_ _
  have hS := Lw.sm_keep (Lw.sm_drew W) hbx
  go_wp2
  go_ret
  exact ⟨rfl, Lw.bt hBW hS.2.2.2⟩
set_option maxHeartbeats 2000000 in
theorem curve_has_far (P A B X Y : Int) (w : World) :
    Calls Try.prog 23 #[.agg #[.int .i64 P, .int .i64 A, .int .i64 B], .agg #[.int .i64 X, .int .i64 Y, .bool true]] w fun e w' => e = .returned (.bool (Lw.spotB P A B X Y true)) ∧ Below w.heap.size w w' := by
  have E : Hid (Lw.spotB P A B X Y true = ((X == 0) && (Y == 0))) := by unfold Lw.spotB Hid; by_cases h1 : X = 0 <;> by_cases h2 : Y = 0 <;> simp [h1, h2]
  rcases hx : (X == 0) with _ | _ <;> rcases hy : (Y == 0) with _ | _
  all_goals
    rw [hx, hy] at E
    go_enter Try.func23, Try.ntmps23
    go_wp2
    go_ret
    exact ⟨Lw.ret_bool E.out.symm, by (repeat (first | exact Below.refl _ _ | refine Lw.bt ?_ (by assumption) | refine Lw.balloc ?_ _ | refine Lw.bdrewN ?_ _ | refine Below.drew ?_ | refine Lw.bset ?_ (by first | (simp; done) | (simp; omega) | omega) _))⟩
set_option maxHeartbeats 2000000 in
theorem curve_has_out (P A B X Y : Int) (w : World) (h : ¬ Lw.inP P X Y) :
    Calls Try.prog 23 #[.agg #[.int .i64 P, .int .i64 A, .int .i64 B], .agg #[.int .i64 X, .int .i64 Y, .bool false]] w fun e w' => e = .returned (.bool (Lw.spotB P A B X Y false)) ∧ Below w.heap.size w w' := by
  have E : Hid (Lw.spotB P A B X Y false = false) := by unfold Lw.spotB Hid; simp [h]
  have hc : (X ≤ Y ∧ ¬ 0 ≤ X) ∨ (X ≤ Y ∧ 0 ≤ X ∧ ¬ Y < P) ∨ (Y < X ∧ ¬ 0 ≤ Y) ∨ (Y < X ∧ 0 ≤ Y ∧ ¬ X < P) := by unfold Lw.inP at h; omega
  clear h
  obtain ⟨W, hW⟩ : ∃ W, (w.alloc (.cells #[.int .i64 P, .int .i64 A, .int .i64 B] 44)).alloc (.cells #[.int .i64 X, .int .i64 Y, .bool false] 32) = W := ⟨_, rfl⟩
  have B0 := show W.heap[w.heap.size]? = some (.cells #[.int .i64 P, .int .i64 A, .int .i64 B] 44 (0, 0)) from hW ▸ Lw.blk_alloc (Lw.blk_new _ _ _) _
  have B1 := show W.heap[w.heap.size + 1]? = some (.cells #[.int .i64 X, .int .i64 Y, .bool false] 32 (0, 0)) from hW ▸ Lw.blk_new' (by simp) _ _
  have l0 := Lw.blk_cell B0 0; have l1 := Lw.blk_cell B0 1; have l2 := Lw.blk_cell B0 2
  have k0 := Lw.blk_cell B1 0; have k1 := Lw.blk_cell B1 1; have k2 := Lw.blk_cell B1 2
  simp at l0 l1 l2 k0 k1 k2
  have hBW : Below w.heap.size w W := by rw [← hW]; exact Lw.balloc (Lw.balloc (Below.refl _ _) _) _
  have hWs : w.heap.size < W.heap.size := by rw [← hW]; simp <;> omega
  have hWs1 : w.heap.size + 1 < W.heap.size := by rw [← hW]; simp
  have HW := Lib.hid hW
  have HB0 := Lib.hid B0
  have HB1 := Lib.hid B1
  clear hW B0 B1
  rcases hc with ⟨h1, h2⟩ | ⟨h1, h2, h3⟩ | ⟨h1, h2⟩ | ⟨h1, h2, h3⟩
  all_goals
    go_enter Try.func23, Try.ntmps23
    go_wp2_with fail
    all_goals (try (exfalso; omega))
    all_goals
      rw [HW.out]
      (try rw [decide_eq_false (show ¬ Y < P by omega)])
      (try rw [decide_eq_false (show ¬ X < P by omega)])
      refine wp_region_held_drew (S := Lw.Sm W) (by kernel_rfl) (Lw.sm_drew W) (fun hHeld => ?_)
      (refine Lw.take1 (i := 0) (v := ?_) rfl (by kernel_rfl) (by kernel_rfl) (by kernel_rfl) (fun _ _ _ h => h) (Or.inl ⟨by rfl, ?_⟩) (by assumption) ?_; rotate_left 1; (focus (intro wS hSw; obtain ⟨hS1, hS2, hS3, hS4⟩ := hSw; go_simp <;> with_reducible rfl)); (try simp only [Act.put, List.setIfInBounds_toArray, List.set_cons_zero, List.set_cons_succ]))
      (refine Lw.take1 (i := 1) (v := ?_) rfl (by kernel_rfl) (by kernel_rfl) (by kernel_rfl) (fun _ _ _ h => h) (Or.inl ⟨by rfl, ?_⟩) (by assumption) ?_; rotate_left 1; (focus (intro wS hSw; obtain ⟨hS1, hS2, hS3, hS4⟩ := hSw; go_simp <;> with_reducible rfl)); (try simp only [Act.put, List.setIfInBounds_toArray, List.set_cons_zero, List.set_cons_succ]))
      (refine Lw.take1 (i := 2) (v := undef) rfl (by kernel_rfl) (by kernel_rfl) (by kernel_rfl) (fun _ _ _ h => h) (Or.inr ⟨by rfl, rfl⟩) (by assumption) ?_; (try simp only [Act.put, List.setIfInBounds_toArray, List.set_cons_zero, List.set_cons_succ]))
      (refine Lw.take1 (i := 3) (v := undef) rfl (by kernel_rfl) (by kernel_rfl) (by kernel_rfl) (fun _ _ _ h => h) (Or.inr ⟨by rfl, rfl⟩) (by assumption) ?_; (try simp only [Act.put, List.setIfInBounds_toArray, List.set_cons_zero, List.set_cons_succ]))
      (refine Lw.take1 (i := 4) (v := undef) rfl (by kernel_rfl) (by kernel_rfl) (by kernel_rfl) (fun _ _ _ h => h) (Or.inr ⟨by rfl, rfl⟩) (by assumption) ?_; (try simp only [Act.put, List.setIfInBounds_toArray, List.set_cons_zero, List.set_cons_succ]))
      (refine Lw.take1 (i := 5) (v := undef) rfl (by kernel_rfl) (by kernel_rfl) (by kernel_rfl) (fun _ _ _ h => h) (Or.inr ⟨by rfl, rfl⟩) (by assumption) ?_; (try simp only [Act.put, List.setIfInBounds_toArray, List.set_cons_zero, List.set_cons_succ]))
      (refine Lw.take1 (i := 6) (v := undef) rfl (by kernel_rfl) (by kernel_rfl) (by kernel_rfl) (fun _ _ _ h => h) (Or.inr ⟨by rfl, rfl⟩) (by assumption) ?_; (try simp only [Act.put, List.setIfInBounds_toArray, List.set_cons_zero, List.set_cons_succ]))
      (refine Lw.take1 (i := 7) (v := undef) rfl (by kernel_rfl) (by kernel_rfl) (by kernel_rfl) (fun _ _ _ h => h) (Or.inr ⟨by rfl, rfl⟩) (by assumption) ?_; (try simp only [Act.put, List.setIfInBounds_toArray, List.set_cons_zero, List.set_cons_succ]))
      (refine Lw.take1 (i := 8) (v := undef) rfl (by kernel_rfl) (by kernel_rfl) (by kernel_rfl) (fun _ _ _ h => h) (Or.inr ⟨by rfl, rfl⟩) (by assumption) ?_; (try simp only [Act.put, List.setIfInBounds_toArray, List.set_cons_zero, List.set_cons_succ]))
      (refine Lw.take1 (i := 9) (v := undef) rfl (by kernel_rfl) (by kernel_rfl) (by kernel_rfl) (fun _ _ _ h => h) (Or.inr ⟨by rfl, rfl⟩) (by assumption) ?_; (try simp only [Act.put, List.setIfInBounds_toArray, List.set_cons_zero, List.set_cons_succ]))
      (refine Lw.take1 (i := 10) (v := undef) rfl (by kernel_rfl) (by kernel_rfl) (by kernel_rfl) (fun _ _ _ h => h) (Or.inr ⟨by rfl, rfl⟩) (by assumption) ?_; (try simp only [Act.put, List.setIfInBounds_toArray, List.set_cons_zero, List.set_cons_succ]))
      (refine Lw.take1 (i := 11) (v := undef) rfl (by kernel_rfl) (by kernel_rfl) (by kernel_rfl) (fun _ _ _ h => h) (Or.inr ⟨by rfl, rfl⟩) (by assumption) ?_; (try simp only [Act.put, List.setIfInBounds_toArray, List.set_cons_zero, List.set_cons_succ]))
      (refine Lw.take1 (i := 12) (v := undef) rfl (by kernel_rfl) (by kernel_rfl) (by kernel_rfl) (fun _ _ _ h => h) (Or.inr ⟨by rfl, rfl⟩) (by assumption) ?_; (try simp only [Act.put, List.setIfInBounds_toArray, List.set_cons_zero, List.set_cons_succ]))
      (refine Lw.take1 (i := 13) (v := undef) rfl (by kernel_rfl) (by kernel_rfl) (by kernel_rfl) (fun _ _ _ h => h) (Or.inr ⟨by rfl, rfl⟩) (by assumption) ?_; (try simp only [Act.put, List.setIfInBounds_toArray, List.set_cons_zero, List.set_cons_succ]))
      (refine Lw.take1 (i := 14) (v := undef) rfl (by kernel_rfl) (by kernel_rfl) (by kernel_rfl) (fun _ _ _ h => h) (Or.inr ⟨by rfl, rfl⟩) (by assumption) ?_; (try simp only [Act.put, List.setIfInBounds_toArray, List.set_cons_zero, List.set_cons_succ]))
      (refine Lw.take1 (i := 15) (v := undef) rfl (by kernel_rfl) (by kernel_rfl) (by kernel_rfl) (fun _ _ _ h => h) (Or.inr ⟨by rfl, rfl⟩) (by assumption) ?_; (try simp only [Act.put, List.setIfInBounds_toArray, List.set_cons_zero, List.set_cons_succ]))
      (refine Lw.take1 (i := 16) (v := ?_) rfl (by kernel_rfl) (by kernel_rfl) (by kernel_rfl) (fun _ _ _ h => h) (Or.inl ⟨by rfl, ?_⟩) (by assumption) ?_; rotate_left 1; (focus (intro wS hSw; obtain ⟨hS1, hS2, hS3, hS4⟩ := hSw; go_simp <;> with_reducible rfl)); (try simp only [Act.put, List.setIfInBounds_toArray, List.set_cons_zero, List.set_cons_succ]))
      (refine Lw.take1 (i := 17) (v := ?_) rfl (by kernel_rfl) (by kernel_rfl) (by kernel_rfl) (fun _ _ _ h => h) (Or.inl ⟨by rfl, ?_⟩) (by assumption) ?_; rotate_left 1; (focus (intro wS hSw; obtain ⟨hS1, hS2, hS3, hS4⟩ := hSw; go_simp <;> with_reducible rfl)); (try simp only [Act.put, List.setIfInBounds_toArray, List.set_cons_zero, List.set_cons_succ]))
      refine wpAnyH_done (by kernel_rfl) ?_ _
      go_wp2
      go_ret
      exact ⟨Lw.ret_bool E.out.symm, Below.drew hBW⟩
set_option maxHeartbeats 2000000 in
theorem curve_has_in (P A B X Y : Int) (w : World) (hc : Lw.crvR P A B) (h : Lw.inP P X Y) :
    Calls Try.prog 23 #[.agg #[.int .i64 P, .int .i64 A, .int .i64 B], .agg #[.int .i64 X, .int .i64 Y, .bool false]] w fun e w' => e = .returned (.bool (Lw.spotB P A B X Y false)) ∧ Below w.heap.size w w' := by
  have E : Hid (Lw.spotB P A B X Y false = (Y * Y % P == Lw.rhs P A B X)) := by unfold Lw.spotB Hid; simp [h]; rfl
  have R := Lib.hid (fun w => curve_right P A B X w hc h.1 h.2.1)
  obtain ⟨x0, x1, y0, y1⟩ := h
  obtain ⟨h1, h2, -⟩ := hc
  have hP0 : ¬ P = 0 := by omega
  obtain ⟨m0, m1⟩ := Lw.mul_bd' Y Y 1009 y0 (by omega) y0 (by omega)
  have e1 : IntKind.i64.wrap (Y * Y) = Y * Y := by rw [IntKind.wrap_i64]; omega
  have e2 : (Y * Y).tmod P = Y * Y % P := Int.tmod_eq_emod_of_nonneg m0
  obtain ⟨W, hW⟩ : ∃ W, (w.alloc (.cells #[.int .i64 P, .int .i64 A, .int .i64 B] 44)).alloc (.cells #[.int .i64 X, .int .i64 Y, .bool false] 32) = W := ⟨_, rfl⟩
  have B0 := show W.heap[w.heap.size]? = some (.cells #[.int .i64 P, .int .i64 A, .int .i64 B] 44 (0, 0)) from hW ▸ Lw.blk_alloc (Lw.blk_new _ _ _) _
  have B1 := show W.heap[w.heap.size + 1]? = some (.cells #[.int .i64 X, .int .i64 Y, .bool false] 32 (0, 0)) from hW ▸ Lw.blk_new' (by simp) _ _
  have l0 := Lw.blk_cell B0 0; have l1 := Lw.blk_cell B0 1; have l2 := Lw.blk_cell B0 2
  have k0 := Lw.blk_cell B1 0; have k1 := Lw.blk_cell B1 1; have k2 := Lw.blk_cell B1 2
  simp at l0 l1 l2 k0 k1 k2
  have hBW : Below w.heap.size w W := by rw [← hW]; exact Lw.balloc (Lw.balloc (Below.refl _ _) _) _
  have hWs : w.heap.size < W.heap.size := by rw [← hW]; simp <;> omega
  have hWs1 : w.heap.size + 1 < W.heap.size := by rw [← hW]; simp
  have HW := Lib.hid hW
  have HB0 := Lib.hid B0
  have HB1 := Lib.hid B1
  clear hW B0 B1
  have hXY : X ≤ Y ∨ Y < X := by omega
  rcases hXY with hXY | hXY
  all_goals
    go_enter Try.func23, Try.ntmps23
    go_wp2_with fail
    all_goals (try (exfalso; omega))
    all_goals
      rw [HW.out]
      refine wp_region_held_drew (S := Lw.Sm W) (by kernel_rfl) (Lw.sm_drew W) (fun hHeld => ?_)
      (refine Lw.take1 (i := 0) (v := ?_) rfl (by kernel_rfl) (by kernel_rfl) (by kernel_rfl) (fun _ _ _ h => h) (Or.inl ⟨by rfl, ?_⟩) (by assumption) ?_; rotate_left 1; (focus (intro wS hSw; obtain ⟨hS1, hS2, hS3, hS4⟩ := hSw; go_simp <;> with_reducible rfl)); (try simp only [Act.put, List.setIfInBounds_toArray, List.set_cons_zero, List.set_cons_succ]))
      (refine Lw.take1 (i := 1) (v := ?_) rfl (by kernel_rfl) (by kernel_rfl) (by kernel_rfl) (fun _ _ _ h => h) (Or.inl ⟨by rfl, ?_⟩) (by assumption) ?_; rotate_left 1; (focus (intro wS hSw; obtain ⟨hS1, hS2, hS3, hS4⟩ := hSw; go_simp <;> with_reducible rfl)); (try simp only [Act.put, List.setIfInBounds_toArray, List.set_cons_zero, List.set_cons_succ]))
      (refine Lw.take1 (i := 2) (v := ?_) rfl (by kernel_rfl) (by kernel_rfl) (by kernel_rfl) (fun _ _ _ h => h) (Or.inl ⟨by rfl, ?_⟩) (by assumption) ?_; rotate_left 1; (focus (intro wS hSw; obtain ⟨hS1, hS2, hS3, hS4⟩ := hSw; go_simp <;> with_reducible rfl)); (try simp only [Act.put, List.setIfInBounds_toArray, List.set_cons_zero, List.set_cons_succ]))
      (refine Lw.take1 (i := 3) (v := ?_) rfl (by kernel_rfl) (by kernel_rfl) (by kernel_rfl) (fun _ _ _ h => h) (Or.inl ⟨by rfl, ?_⟩) (by assumption) ?_; rotate_left 1; (focus (intro wS hSw; obtain ⟨hS1, hS2, hS3, hS4⟩ := hSw; go_simp <;> with_reducible rfl)); (try simp only [Act.put, List.setIfInBounds_toArray, List.set_cons_zero, List.set_cons_succ]))
      (refine Lw.take1 (i := 4) (v := ?_) rfl (by kernel_rfl) (by kernel_rfl) (by kernel_rfl) (fun _ _ _ h => h) (Or.inl ⟨by rfl, ?_⟩) (by assumption) ?_; rotate_left 1; (focus (intro wS hSw; obtain ⟨hS1, hS2, hS3, hS4⟩ := hSw; go_simp <;> with_reducible rfl)); (try simp only [Act.put, List.setIfInBounds_toArray, List.set_cons_zero, List.set_cons_succ]))
      (refine Lw.take1 (i := 5) (v := ?_) rfl (by kernel_rfl) (by kernel_rfl) (by kernel_rfl) (fun _ _ _ h => h) (Or.inl ⟨by rfl, ?_⟩) (by assumption) ?_; rotate_left 1; (focus (intro wS hSw; obtain ⟨hS1, hS2, hS3, hS4⟩ := hSw; go_simp <;> with_reducible rfl)); (try simp only [Act.put, List.setIfInBounds_toArray, List.set_cons_zero, List.set_cons_succ]))
      (refine Lw.take1 (i := 6) (v := ?_) rfl (by kernel_rfl) (by kernel_rfl) (by kernel_rfl) (fun _ _ _ h => h) (Or.inl ⟨by rfl, ?_⟩) (by assumption) ?_; rotate_left 1; (focus (intro wS hSw; obtain ⟨hS1, hS2, hS3, hS4⟩ := hSw; go_simp <;> with_reducible rfl)); (try simp only [Act.put, List.setIfInBounds_toArray, List.set_cons_zero, List.set_cons_succ]))
      (refine Lw.take1 (i := 7) (v := ?_) rfl (by kernel_rfl) (by kernel_rfl) (by kernel_rfl) (fun _ _ _ h => h) (Or.inl ⟨by rfl, ?_⟩) (by assumption) ?_; rotate_left 1; (focus (intro wS hSw; obtain ⟨hS1, hS2, hS3, hS4⟩ := hSw; go_simp <;> with_reducible rfl)); (try simp only [Act.put, List.setIfInBounds_toArray, List.set_cons_zero, List.set_cons_succ]))
      (refine Lw.take1 (i := 8) (v := ?_) rfl (by kernel_rfl) (by kernel_rfl) (by kernel_rfl) (fun _ _ _ h => h) (Or.inl ⟨by rfl, ?_⟩) (by assumption) ?_; rotate_left 1; (focus (intro wS hSw; obtain ⟨hS1, hS2, hS3, hS4⟩ := hSw; go_simp <;> with_reducible rfl)); (try simp only [Act.put, List.setIfInBounds_toArray, List.set_cons_zero, List.set_cons_succ]))
      (refine Lw.take1 (i := 9) (v := ?_) rfl (by kernel_rfl) (by kernel_rfl) (by kernel_rfl) (fun _ _ _ h => h) (Or.inl ⟨by rfl, ?_⟩) (by assumption) ?_; rotate_left 1; (focus (intro wS hSw; obtain ⟨hS1, hS2, hS3, hS4⟩ := hSw; go_simp <;> with_reducible rfl)); (try simp only [Act.put, List.setIfInBounds_toArray, List.set_cons_zero, List.set_cons_succ]))
      (refine Lw.take1 (i := 10) (v := ?_) rfl (by kernel_rfl) (by kernel_rfl) (by kernel_rfl) (fun _ _ _ h => h) (Or.inl ⟨by rfl, ?_⟩) (by assumption) ?_; rotate_left 1; (focus (intro wS hSw; obtain ⟨hS1, hS2, hS3, hS4⟩ := hSw; go_simp <;> with_reducible rfl)); (try simp only [Act.put, List.setIfInBounds_toArray, List.set_cons_zero, List.set_cons_succ]))
      (refine Lw.take1 (i := 11) (v := ?_) rfl (by kernel_rfl) (by kernel_rfl) (by kernel_rfl) (fun _ _ _ h => h) (Or.inl ⟨by rfl, ?_⟩) (by assumption) ?_; rotate_left 1; (focus (intro wS hSw; obtain ⟨hS1, hS2, hS3, hS4⟩ := hSw; go_simp <;> with_reducible rfl)); (try simp only [Act.put, List.setIfInBounds_toArray, List.set_cons_zero, List.set_cons_succ]))
      (refine Lw.take1 (i := 12) (v := ?_) rfl (by kernel_rfl) (by kernel_rfl) (by kernel_rfl) (fun _ _ _ h => h) (Or.inl ⟨by rfl, ?_⟩) (by assumption) ?_; rotate_left 1; (focus (intro wS hSw; obtain ⟨hS1, hS2, hS3, hS4⟩ := hSw; go_simp <;> with_reducible rfl)); (try simp only [Act.put, List.setIfInBounds_toArray, List.set_cons_zero, List.set_cons_succ]))
      (refine Lw.take1 (i := 13) (v := ?_) rfl (by kernel_rfl) (by kernel_rfl) (by kernel_rfl) (fun _ _ _ h => h) (Or.inl ⟨by rfl, ?_⟩) (by assumption) ?_; rotate_left 1; (focus (intro wS hSw; obtain ⟨hS1, hS2, hS3, hS4⟩ := hSw; go_simp <;> with_reducible rfl)); (try simp only [Act.put, List.setIfInBounds_toArray, List.set_cons_zero, List.set_cons_succ]))
      (refine wpAnyH_ready (rs := [14]) (by kernel_rfl) (by simp) ?_; refine Lw.cons1 (i := 14) rfl (fun K hK => ?_) AllReadyH.nil; go_simp; go_at_call 34; (with_reducible refine (R.out _).mono ?_); rintro e wx ⟨rfl, hbx⟩; refine hK.out _ _ ?_ (fun hHeld => ?_); (focus exact Lw.sm_keep (Lw.sm_drew W) hbx); clear hK K; (try simp only [Act.put, List.setIfInBounds_toArray, List.set_cons_zero, List.set_cons_succ]))
      (refine Lw.take1 (i := 15) (v := ?_) rfl (by kernel_rfl) (by kernel_rfl) (by kernel_rfl) (fun _ _ _ h => h) (Or.inl ⟨by rfl, ?_⟩) (by assumption) ?_; rotate_left 1; (focus (intro wS hSw; obtain ⟨hS1, hS2, hS3, hS4⟩ := hSw; go_simp <;> with_reducible rfl)); (try simp only [Act.put, List.setIfInBounds_toArray, List.set_cons_zero, List.set_cons_succ]))
      (refine Lw.take1 (i := 16) (v := ?_) rfl (by kernel_rfl) (by kernel_rfl) (by kernel_rfl) (fun _ _ _ h => h) (Or.inl ⟨by rfl, ?_⟩) (by assumption) ?_; rotate_left 1; (focus (intro wS hSw; obtain ⟨hS1, hS2, hS3, hS4⟩ := hSw; go_simp <;> with_reducible rfl)); (try simp only [Act.put, List.setIfInBounds_toArray, List.set_cons_zero, List.set_cons_succ]))
      (refine Lw.take1 (i := 17) (v := ?_) rfl (by kernel_rfl) (by kernel_rfl) (by kernel_rfl) (fun _ _ _ h => h) (Or.inl ⟨by rfl, ?_⟩) (by assumption) ?_; rotate_left 1; (focus (intro wS hSw; obtain ⟨hS1, hS2, hS3, hS4⟩ := hSw; go_simp <;> with_reducible rfl)); (try simp only [Act.put, List.setIfInBounds_toArray, List.set_cons_zero, List.set_cons_succ]))
      refine wpAnyH_done (by kernel_rfl) ?_ _
      have hS := Lw.sm_keep (Lw.sm_drew W) hbx
      go_wp2
      go_ret
      exact ⟨Lw.ret_bool E.out.symm, Lw.bt hBW hS.2.2.2⟩
theorem curve_has (P A B X Y : Int) (F : Bool) (w : World) (hc : Lw.crvR P A B) :
    Calls Try.prog 23 #[.agg #[.int .i64 P, .int .i64 A, .int .i64 B], .agg #[.int .i64 X, .int .i64 Y, .bool F]] w fun e w' => e = .returned (.bool (Lw.spotB P A B X Y F)) ∧ Below w.heap.size w w' := by
  cases F
  · by_cases h : Lw.inP P X Y
    · exact curve_has_in P A B X Y w hc h
    · exact curve_has_out P A B X Y w h
  · exact curve_has_far P A B X Y w
set_option maxHeartbeats 2000000 in
theorem ref_Spot_far (P A B X Y : Int) (w : World) :
    Calls Try.prog 17 #[.agg #[.int .i64 P, .int .i64 A, .int .i64 B], .agg #[.int .i64 X, .int .i64 Y, .bool true]] w fun e w' => e = .returned (.bool (Lw.spotB P A B X Y true)) ∧ Below w.heap.size w w' := by
  have E : Hid (Lw.spotB P A B X Y true = ((X == 0) && (Y == 0))) := by unfold Lw.spotB Hid; by_cases h1 : X = 0 <;> by_cases h2 : Y = 0 <;> simp [h1, h2]
  rcases hx : (X == 0) with _ | _ <;> rcases hy : (Y == 0) with _ | _
  all_goals
    rw [hx, hy] at E
    go_enter Try.func17, Try.ntmps17
    go_wp2
    go_ret
    exact ⟨Lw.ret_bool E.out.symm, by (repeat (first | exact Below.refl _ _ | refine Lw.bt ?_ (by assumption) | refine Lw.balloc ?_ _ | refine Lw.bdrewN ?_ _ | refine Below.drew ?_ | refine Lw.bset ?_ (by first | (simp; done) | (simp; omega) | omega) _))⟩
set_option maxHeartbeats 2000000 in
theorem ref_Spot_out (P A B X Y : Int) (w : World) (h : ¬ Lw.inP P X Y) :
    Calls Try.prog 17 #[.agg #[.int .i64 P, .int .i64 A, .int .i64 B], .agg #[.int .i64 X, .int .i64 Y, .bool false]] w fun e w' => e = .returned (.bool (Lw.spotB P A B X Y false)) ∧ Below w.heap.size w w' := by
  have E : Hid (Lw.spotB P A B X Y false = false) := by unfold Lw.spotB Hid; simp [h]
  have hc : X < 0 ∨ (0 ≤ X ∧ P ≤ X) ∨ (0 ≤ X ∧ X < P ∧ Y < 0) ∨ (0 ≤ X ∧ X < P ∧ 0 ≤ Y ∧ P ≤ Y) := by unfold Lw.inP at h; omega
  clear h
  rcases hc with h1 | ⟨h1, h2⟩ | ⟨h1, h2, h3⟩ | ⟨h1, h2, h3, h4⟩
  all_goals
    go_enter Try.func17, Try.ntmps17
    go_wp2
    go_ret
    exact ⟨Lw.ret_bool E.out.symm, by (repeat (first | exact Below.refl _ _ | refine Lw.bt ?_ (by assumption) | refine Lw.balloc ?_ _ | refine Lw.bdrewN ?_ _ | refine Below.drew ?_ | refine Lw.bset ?_ (by first | (simp; done) | (simp; omega) | omega) _))⟩
set_option maxHeartbeats 2000000 in
theorem ref_Spot_in (P A B X Y : Int) (w : World) (hc : Lw.crvR P A B) (h : Lw.inP P X Y) :
    Calls Try.prog 17 #[.agg #[.int .i64 P, .int .i64 A, .int .i64 B], .agg #[.int .i64 X, .int .i64 Y, .bool false]] w fun e w' => e = .returned (.bool (Lw.spotB P A B X Y false)) ∧ Below w.heap.size w w' := by
  have E : Hid (Lw.spotB P A B X Y false = ((Y * Y - Lw.pw X 3 P - A * X - B) % P == 0)) := by
    unfold Lw.spotB Hid
    have e := Lw.rhs_ref (P := P) (A := A) (B := B) (X := X) (Y := Y)
    rw [if_neg (by simp), Bool.eq_iff_iff, decide_eq_true_eq, beq_iff_eq, e]
    exact ⟨fun hx => hx.2, fun hx => ⟨h, hx⟩⟩
  obtain ⟨x0, x1, y0, y1⟩ := h
  obtain ⟨h1, h2, h3, h4, h5, h6⟩ := hc
  obtain ⟨m0, m1⟩ := Lw.mul_bd' Y Y 1009 y0 (by omega) y0 (by omega)
  obtain ⟨n0, n1⟩ := Lw.mul_bd' A X 1009 h3 (by omega) x0 (by omega)
  obtain ⟨p0, p1⟩ := Lw.pw_bd X 3 P (by omega)
  have X3 := Lib.hid (fun w => ref_Pow _ X 3 P w (Nat.le_refl _) (by omega) (by omega) (by omega) (by omega))
  have X4 := Lib.hid (fun w => ref_Mod (Y * Y - Lw.pw X 3 P - A * X - B) P w (by omega) (by omega))
  have e1 : IntKind.i64.wrap (Y * Y) = Y * Y := by rw [IntKind.wrap_i64]; omega
  have e2 : IntKind.i64.wrap (Y * Y - Lw.pw X 3 P) = Y * Y - Lw.pw X 3 P := by rw [IntKind.wrap_i64]; omega
  have e3 : IntKind.i64.wrap (A * X) = A * X := by rw [IntKind.wrap_i64]; omega
  have e4 : IntKind.i64.wrap (Y * Y - Lw.pw X 3 P - A * X) = Y * Y - Lw.pw X 3 P - A * X := by rw [IntKind.wrap_i64]; omega
  have e5 : IntKind.i64.wrap (Y * Y - Lw.pw X 3 P - A * X - B) = Y * Y - Lw.pw X 3 P - A * X - B := by rw [IntKind.wrap_i64]; omega
  go_enter Try.func17, Try.ntmps17
  go_wp2_with fail
  go_quiet ((first | (go_at_call 29; with_reducible exact Lw.quiet (X3.out _)) | (go_at_call 28; with_reducible exact Lw.quiet (X4.out _))))
  go_wp2
  go_ret
  exact ⟨Lw.ret_bool E.out.symm, by (repeat (first | exact Below.refl _ _ | refine Lw.bt ?_ (by assumption) | refine Lw.balloc ?_ _ | refine Lw.bdrewN ?_ _ | refine Below.drew ?_ | refine Lw.bset ?_ (by first | (simp; done) | (simp; omega) | omega) _))⟩
theorem ref_Spot (P A B X Y : Int) (F : Bool) (w : World) (hc : Lw.crvR P A B) :
    Calls Try.prog 17 #[.agg #[.int .i64 P, .int .i64 A, .int .i64 B], .agg #[.int .i64 X, .int .i64 Y, .bool F]] w fun e w' => e = .returned (.bool (Lw.spotB P A B X Y F)) ∧ Below w.heap.size w w' := by
  cases F
  · by_cases h : Lw.inP P X Y
    · exact ref_Spot_in P A B X Y w hc h
    · exact ref_Spot_out P A B X Y w h
  · exact ref_Spot_far P A B X Y w
end Go.Proofs.Ytafefengppiobaa
namespace Lw
open Go Go.RowKit
structure SpotT where
  X : Int
  Y : Int
  F : Bool
def SpotT.cs (s : SpotT) : List Value := [.int .i64 s.X, .int .i64 s.Y, .bool s.F]
def SpotT.v (s : SpotT) : Value := .agg #[.int .i64 s.X, .int .i64 s.Y, .bool s.F]
def spotsV (l : List SpotT) : List Value := l.flatMap SpotT.cs
theorem spotsV_length (l : List SpotT) : (spotsV l).length = l.length * 3 := by
  induction l with
  | nil => rfl
  | cons x l ih => simp only [spotsV, List.flatMap_cons, List.length_append, List.length_cons, SpotT.cs, List.length_nil] at *; omega
theorem spotsV_get : ∀ {l : List SpotT} {i : Nat} (h : i < l.length), (spotsV l)[i * 3 + 0]? = some (.int .i64 l[i].X) ∧ (spotsV l)[i * 3 + 1]? = some (.int .i64 l[i].Y) ∧ (spotsV l)[i * 3 + 2]? = some (.bool l[i].F)
  | x :: l, 0, _ => by simp [spotsV, SpotT.cs]
  | x :: l, i + 1, h => by
    have ih := spotsV_get (l := l) (i := i) (by simpa using h)
    have e : spotsV (x :: l) = x.cs ++ spotsV l := by simp [spotsV]
    have hl : x.cs.length = 3 := rfl
    rw [e, List.getElem?_append_right (by omega), List.getElem?_append_right (by omega), List.getElem?_append_right (by omega), hl]
    simp only [List.getElem_cons_succ]
    rw [show (i + 1) * 3 + 0 - 3 = i * 3 + 0 from by omega, show (i + 1) * 3 + 1 - 3 = i * 3 + 1 from by omega, show (i + 1) * 3 + 2 - 3 = i * 3 + 2 from by omega]
    exact ih
/-- the code of a curve and spots -/
def sptE (P A B : Int) (l : List SpotT) : Int := if crvE P A B = 0 then (if l.all (fun s => spotB P A B s.X s.Y s.F) then 0 else 4) else crvE P A B
theorem spt_bad {P A B : Int} {l : List SpotT} (h : ¬ crvE P A B = 0) : sptE P A B l = crvE P A B := if_neg h
theorem spt_form {P A B : Int} {l : List SpotT} (h : crvE P A B = 0) (h2 : l.all (fun s => spotB P A B s.X s.Y s.F) = false) : sptE P A B l = 4 := by unfold sptE; rw [if_pos h, if_neg (by simp [h2])]
theorem spt_ok {P A B : Int} {l : List SpotT} (h : crvE P A B = 0) (h2 : l.all (fun s => spotB P A B s.X s.Y s.F) = true) : sptE P A B l = 0 := by unfold sptE; rw [if_pos h, if_pos h2]
def sptV (P A B : Int) (l : List SpotT) : Value := if sptE P A B l = 0 then .agg #[.int .i64 P, .int .i64 A, .int .i64 B] else .agg #[.int .i64 0, .int .i64 0, .int .i64 0]
theorem spt_formV {P A B : Int} {l : List SpotT} (h : crvE P A B = 0) (h2 : l.all (fun s => spotB P A B s.X s.Y s.F) = false) : Ending.returned (.tuple #[sptV P A B l, .int .i64 (sptE P A B l)]) = .returned (.tuple #[.agg #[.int .i64 0, .int .i64 0, .int .i64 0], .int .i64 4]) := by unfold sptV; rw [spt_form h h2]; rfl
theorem spt_okV {P A B : Int} {l : List SpotT} (h : crvE P A B = 0) (h2 : l.all (fun s => spotB P A B s.X s.Y s.F) = true) : Ending.returned (.tuple #[sptV P A B l, .int .i64 (sptE P A B l)]) = .returned (.tuple #[.agg #[.int .i64 P, .int .i64 A, .int .i64 B], .int .i64 0]) := by unfold sptV; rw [spt_ok h h2]; rfl
theorem set3 {W : World} {b : Nat} {c0 c1 c2 x y z : Value} {t : TypeId} (h : W.heap[b]? = some (.cells #[c0, c1, c2] t (0, 0))) :
    (((W.setCell ⟨b, 0, none⟩ x).setCell ⟨b, 1, none⟩ y).setCell ⟨b, 2, none⟩ z).heap[b]? = some (.cells #[x, y, z] t (0, 0)) := by
  have h1 := blk_set_same h 0 x
  have h2 := blk_set_same h1 1 y
  have h3 := blk_set_same h2 2 z
  simpa using h3
theorem set3c {W : World} {b : Nat} {c0 c1 c2 x y z : Value} {t : TypeId} (h : W.heap[b]? = some (.cells #[c0, c1, c2] t (0, 0))) :
    (((W.setCell ⟨b, 0, none⟩ x).setCell ⟨b, 1, none⟩ y).setCell ⟨b, 2, none⟩ z).cell? ⟨b, 0, none⟩ = some x ∧ (((W.setCell ⟨b, 0, none⟩ x).setCell ⟨b, 1, none⟩ y).setCell ⟨b, 2, none⟩ z).cell? ⟨b, 1, none⟩ = some y ∧ (((W.setCell ⟨b, 0, none⟩ x).setCell ⟨b, 1, none⟩ y).setCell ⟨b, 2, none⟩ z).cell? ⟨b, 2, none⟩ = some z := by
  have h3 := set3 (x := x) (y := y) (z := z) h
  exact ⟨by have := blk_cell h3 0; simpa using this, by have := blk_cell h3 1; simpa using this, by have := blk_cell h3 2; simpa using this⟩
theorem bset3 {w W : World} {b : Nat} (h : Below w.heap.size w W) (hb : w.heap.size ≤ b) (x y z : Value) : Below w.heap.size w (((W.setCell ⟨b, 0, none⟩ x).setCell ⟨b, 1, none⟩ y).setCell ⟨b, 2, none⟩ z) := bset (bset (bset h hb _) hb _) hb _
theorem all_take' {α : Type} {p : α → Bool} {T : List α} {k : Nat} (h : k < T.length) (h1 : (T.take k).all p = true) (h2 : p T[k] = true) : (T.take (k + 1)).all p = true := by
  rw [List.take_succ_eq_append_getElem h, List.all_append, h1]; simp [h2]
theorem all_at {α : Type} {p : α → Bool} {T : List α} {k : Nat} (h : k < T.length) (h2 : p T[k] = false) : T.all p = false := by
  rw [Bool.eq_false_iff]; intro e
  have := List.all_eq_true.1 e _ (List.getElem_mem h)
  rw [h2] at this; cases this
end Lw
set_option linter.unusedVariables false
set_option linter.unusedSimpArgs false
namespace Go.Proofs.Ytafefengppiobaa
open Go.RowKit
set_option maxHeartbeats 2000000 in
theorem curve_spots_bad (P A B : Int) (V : Option Addr) (n c : Nat) (l : List Lw.SpotT) (w : World) (h : ¬ Lw.crvE P A B = 0) :
    Calls Try.prog 14 #[.agg #[.int .i64 P, .int .i64 A, .int .i64 B], .slice V n c] w fun e w' => e = .returned (.tuple #[.agg #[.int .i64 0, .int .i64 0, .int .i64 0], .int .i64 (Lw.sptE P A B l)]) ∧ Below w.heap.size w w' := by
  have E := Lib.hid (Lw.spt_bad (l := l) h)
  have X := Lib.hid (fun w => curve_Check P A B w)
  have h1 : (Lw.crvE P A B == 0) = false := by simpa using h
  clear h
  obtain ⟨W, hW⟩ : ∃ W, (w.alloc (.cells #[.int .i64 P, .int .i64 A, .int .i64 B] 30)).alloc (.cells #[.int .i64 0, .int .i64 0, .int .i64 0] 44) = W := ⟨_, rfl⟩
  have B1 := Lib.hid (show W.heap[w.heap.size + 1]? = some (.cells #[.int .i64 0, .int .i64 0, .int .i64 0] 44 (0, 0)) from hW ▸ Lw.blk_new' (by simp) _ _)
  have hBW : Below w.heap.size w W := by rw [← hW]; exact Lw.balloc (Lw.balloc (Below.refl _ _) _) _
  have hWs : w.heap.size + 1 < W.heap.size := by rw [← hW]; simp
  have HW := Lib.hid hW
  clear hW
  go_enter Try.func14, Try.ntmps14
  go_wp2_with (go_at_call 22; rw [HW.out]; (with_reducible refine (X.out _).mono ?_); rintro e w1 ⟨rfl, hb1⟩; have B2 := (hb1.block _ hWs).trans B1.out; have f1 := Lw.blk_free B2 0; have f2 := Lw.blk_free B2 1; have f3 := Lw.blk_free B2 2; have c1 := Lw.blk_cell B2 0; have c2 := Lw.blk_cell B2 1; have c3 := Lw.blk_cell B2 2; simp at c1 c2 c3)
  obtain ⟨r0, r1, r2⟩ := Lw.set3c (x := .int .i64 0) (y := .int .i64 0) (z := .int .i64 0) B2
  refine bodyPost_ret (v := .tuple #[.agg #[.int .i64 0, .int .i64 0, .int .i64 0], .int .i64 (Lw.sptE P A B l)]) (by rw [E.out]; simp only [results, Try.results14]; simp [go_sem, r0, r1, r2]) rfl ⟨rfl, Lw.bset3 (Lw.bt hBW hb1) (by omega) _ _ _⟩
set_option maxHeartbeats 2000000 in
theorem curve_spots_ok (P A B : Int) (V : Option Addr) (n c : Nat) (l : List Lw.SpotT) (w : World) (R : Lw.Rd w 3 V n (Lw.spotsV l)) (hn : n ≤ 1048576) (h : Lw.crvE P A B = 0) :
    Calls Try.prog 14 #[.agg #[.int .i64 P, .int .i64 A, .int .i64 B], .slice V n c] w fun e w' => e = .returned (.tuple #[Lw.sptV P A B l, .int .i64 (Lw.sptE P A B l)]) ∧ Below w.heap.size w w' := by
  have X := fun w => curve_Check P A B w
  rw [h] at X
  replace X := Lib.hid X
  have HC := (Lw.of_crv h).1
  have EF := Lib.hid (fun h2 => Lw.spt_formV (l := l) h h2)
  have EO := Lib.hid (fun h2 => Lw.spt_okV (l := l) h h2)
  have HS := Lib.hid (fun X Y F w => curve_has P A B X Y F w HC)
  have L := Lib.hid (show l.length = n by have := R.1; rw [Lw.spotsV_length] at this; omega)
  have R := Lib.hid R
  clear h HC
  obtain ⟨W, hW⟩ : ∃ W, (w.alloc (.cells #[.int .i64 P, .int .i64 A, .int .i64 B] 30)).alloc (.cells #[.int .i64 0, .int .i64 0, .int .i64 0] 44) = W := ⟨_, rfl⟩
  have B0 := Lib.hid (show W.heap[w.heap.size]? = some (.cells #[.int .i64 P, .int .i64 A, .int .i64 B] 30 (0, 0)) from hW ▸ Lw.blk_alloc (Lw.blk_new _ _ _) _)
  have B1 := Lib.hid (show W.heap[w.heap.size + 1]? = some (.cells #[.int .i64 0, .int .i64 0, .int .i64 0] 44 (0, 0)) from hW ▸ Lw.blk_new' (by simp) _ _)
  have hBW : Below w.heap.size w W := by rw [← hW]; exact Lw.balloc (Lw.balloc (Below.refl _ _) _) _
  have hWs : w.heap.size + 1 < W.heap.size := by rw [← hW]; simp
  have l0 := Lw.blk_cell B0.out 0; have l1 := Lw.blk_cell B0.out 1; have l2 := Lw.blk_cell B0.out 2
  simp at l0 l1 l2
  have HW := Lib.hid hW
  clear hW
  go_enter Try.func14, Try.ntmps14
  go_wp2_with (go_at_call 22; rw [HW.out]; (with_reducible refine (X.out _).mono ?_); rintro e w1 ⟨rfl, hb1⟩)
  clear l0 l1 l2 HW
  go_loopw [8, 17] (fun p i wr => ∃ k : Nat, k ≤ n ∧ i = .int .i64 (k : Int) ∧ Hid ((l.take k).all (fun s => Lw.spotB P A B s.X s.Y s.F) = true) ∧ Below W.heap.size W wr) (fun _ i _ => n - (intOf i).toNat)
  case atStart => exact ⟨0, by omega, rfl, rfl, hb1⟩
  case round =>
    obtain ⟨k, k1, rfl, TK, hB⟩ := hrel
    have hBr := hBW.trans (hB.mono hBW.size)
    have hzr := hB.size
    by_cases hlt : k < n
    · have hl : k < l.length := by rw [L.out]; exact hlt
      obtain ⟨g0, g1, g2⟩ := Lw.spotsV_get hl
      obtain ⟨ad, rfl, had, c0, c1, c2⟩ := (R.out.below (Nat.le_refl _) hBr).at3 hlt g0 g1 g2
      have N := Lib.hid (Lw.all_take' (p := fun s : Lw.SpotT => Lw.spotB P A B s.X s.Y s.F) hl TK.out)
      have D := Lib.hid (Lw.all_at (p := fun s : Lw.SpotT => Lw.spotB P A B s.X s.Y s.F) hl)
      obtain ⟨⟨X0, Y0, F0⟩, hs⟩ : ∃ s, l[k] = s := ⟨_, rfl⟩
      rw [hs] at c0 c1 c2 N D
      simp only at c0 c1 c2 N D
      clear hs g0 g1 g2
      have B2 := (hB.block _ (by omega)).trans B0.out
      have l0 := Lw.blk_cell B2 0; have l1 := Lw.blk_cell B2 1; have l2 := Lw.blk_cell B2 2
      simp at l0 l1 l2
      clear B2
      have B3 := Lib.hid ((hB.block _ hWs).trans B1.out)
      have hz0 : w.heap.size < wr.heap.size := by omega
      have hz1 : w.heap.size + 1 < wr.heap.size := by omega
      rcases hb : Lw.spotB P A B X0 Y0 F0 with _ | _
      · have C := fun w => HS.out X0 Y0 F0 w
        rw [hb] at C
        replace C := Lib.hid C
        have E := Lib.hid (EF.out (D.out hb))
        clear hb N D
        go_wp2_with (go_at_call 23; (with_reducible refine (C.out _).mono ?_); rintro e w5 ⟨rfl, hb5⟩; have B4 := (hb5.block (w.heap.size + 1) (by simp; omega)).trans (Lw.blk_alloc B3.out _); have f1 := Lw.blk_free B4 0; have f2 := Lw.blk_free B4 1; have f3 := Lw.blk_free B4 2; have c1 := Lw.blk_cell B4 0; have c2 := Lw.blk_cell B4 1; have c3 := Lw.blk_cell B4 2; simp at c1 c2 c3)
        obtain ⟨r0, r1, r2⟩ := Lw.set3c (x := .int .i64 0) (y := .int .i64 0) (z := .int .i64 0) B4
        refine bodyPost_ret (v := .tuple #[.agg #[.int .i64 0, .int .i64 0, .int .i64 0], .int .i64 4]) (by simp only [results, Try.results14]; simp [go_sem, r0, r1, r2]) rfl ⟨E.out.symm, Lw.bset3 (Lw.bt (Lw.balloc hBr _) hb5) (by omega) _ _ _⟩
      · have C := fun w => HS.out X0 Y0 F0 w
        rw [hb] at C
        replace C := Lib.hid C
        have N1 := Lib.hid (N.out hb)
        clear hb N D
        go_wp2_with (go_at_call 23; (with_reducible refine (C.out _).mono ?_); rintro e w5 ⟨rfl, hb5⟩)
        go_roundw
        case rel => exact ⟨k + 1, by omega, by go_num, N1, Lw.bt (Lw.balloc hB _) hb5⟩
        case measure => simp [intOf]; omega
    · have hk : l.take k = l := List.take_of_length_le (by rw [L.out]; omega)
      have T0 := TK.out
      rw [hk] at T0
      have E := Lib.hid (EO.out T0)
      clear hk T0 TK
      have B2 := (hB.block _ (by omega)).trans B0.out
      have l0 := Lw.blk_cell B2 0; have l1 := Lw.blk_cell B2 1; have l2 := Lw.blk_cell B2 2
      have B4 := (hB.block _ hWs).trans B1.out
      have f1 := Lw.blk_free B4 0; have f2 := Lw.blk_free B4 1; have f3 := Lw.blk_free B4 2; have c1 := Lw.blk_cell B4 0; have c2 := Lw.blk_cell B4 1; have c3 := Lw.blk_cell B4 2
      simp at c1 c2 c3 l0 l1 l2
      clear B2
      go_wp2
      obtain ⟨r0, r1, r2⟩ := Lw.set3c (x := .int .i64 P) (y := .int .i64 A) (z := .int .i64 B) B4
      refine bodyPost_ret (v := .tuple #[.agg #[.int .i64 P, .int .i64 A, .int .i64 B], .int .i64 0]) (by simp only [results, Try.results14]; simp [go_sem, r0, r1, r2]) rfl ⟨E.out.symm, Lw.bset3 hBr (by omega) _ _ _⟩
end Go.Proofs.Ytafefengppiobaa
namespace Lw
open Go Go.RowKit
def negT (P : Int) (s : SpotT) : SpotT := ⟨s.X, (-s.Y) % P, s.F⟩
theorem spot_far {P A B X Y : Int} (h : spotB P A B X Y true = true) : X = 0 ∧ Y = 0 := by unfold spotB at h; simpa using h
theorem spot_in {P A B X Y : Int} (h : spotB P A B X Y false = true) : inP P X Y ∧ Y * Y % P = rhs P A B X := by unfold spotB at h; simpa using h
/-- as the reference says it -/
theorem neg_ref {P A B X Y : Int} {F : Bool} (_ : 0 < P) (h : spotB P A B X Y F = true) : ((F = true ∨ (F = false ∧ Y = 0)) ∧ negT P ⟨X, Y, F⟩ = ⟨X, Y, F⟩) ∨ (F = false ∧ ¬ Y = 0 ∧ 0 < Y ∧ Y < P ∧ negT P ⟨X, Y, F⟩ = ⟨X, P - Y, false⟩) := by
  unfold negT
  cases F with
  | true =>
    obtain ⟨rfl, rfl⟩ := spot_far h
    exact .inl ⟨.inl rfl, by simp⟩
  | false =>
    obtain ⟨⟨x0, x1, y0, y1⟩, _⟩ := spot_in h
    by_cases hy : Y = 0
    · subst hy; exact .inl ⟨.inr ⟨rfl, rfl⟩, by simp⟩
    · refine .inr ⟨rfl, hy, by omega, y1, ?_⟩
      have e : (-Y) % P = P - Y := by
        rw [← Int.add_mul_emod_self_left (-Y) P 1, Int.mul_one]
        exact (Int.emod_eq_of_lt (by omega) (by omega)).trans (by omega)
      simp [e]
/-- the code of one spot, as the statements ask it -/
def oneE (P A B : Int) (s : SpotT) : Int := sptE P A B [s]
theorem one_bad {P A B : Int} {s : SpotT} (h : ¬ crvE P A B = 0) : oneE P A B s = crvE P A B := spt_bad h
theorem one_form {P A B : Int} {s : SpotT} (h : crvE P A B = 0) (h2 : spotB P A B s.X s.Y s.F = false) : oneE P A B s = 4 := spt_form h (by simp [h2])
theorem one_ok {P A B : Int} {s : SpotT} (h : crvE P A B = 0) (h2 : spotB P A B s.X s.Y s.F = true) : oneE P A B s = 0 := spt_ok h (by simp [h2])
end Lw
set_option linter.unusedVariables false
set_option linter.unusedSimpArgs false
namespace Go.Proofs.Ytafefengppiobaa
open Go.RowKit
set_option maxHeartbeats 2000000 in
theorem curve_neg (P A B X Y : Int) (F : Bool) (w : World) (h1 : 0 < P) (h2 : P ≤ 1009) (y0 : -1048576 ≤ Y) (y1 : Y ≤ 1048576) :
    Calls Try.prog 24 #[.agg #[.int .i64 P, .int .i64 A, .int .i64 B], .agg #[.int .i64 X, .int .i64 Y, .bool F]] w fun e w' => e = .returned (Lw.negT P ⟨X, Y, F⟩).v ∧ Below w.heap.size w w' := by
  obtain ⟨W, hW⟩ : ∃ W, ((w.alloc (.cells #[.int .i64 P, .int .i64 A, .int .i64 B] 44)).alloc (.cells #[.int .i64 X, .int .i64 Y, .bool F] 32)).alloc (.cells #[.int .i64 0, .int .i64 0, .bool false] 32) = W := ⟨_, rfl⟩
  have B0 := show W.heap[w.heap.size]? = some (.cells #[.int .i64 P, .int .i64 A, .int .i64 B] 44 (0, 0)) from hW ▸ Lw.blk_alloc (Lw.blk_alloc (Lw.blk_new _ _ _) _) _
  have B1 := Lib.hid (show W.heap[w.heap.size + 1]? = some (.cells #[.int .i64 X, .int .i64 Y, .bool F] 32 (0, 0)) from hW ▸ Lw.blk_alloc (Lw.blk_new' (by simp) _ _) _)
  have B2 := Lib.hid (show W.heap[w.heap.size + 1 + 1]? = some (.cells #[.int .i64 0, .int .i64 0, .bool false] 32 (0, 0)) from hW ▸ Lw.blk_new' (by simp) _ _)
  have l0 := Lw.blk_cell B0 0; have l1 := Lw.blk_cell B0 1; have l2 := Lw.blk_cell B0 2
  have k0 := Lw.blk_cell B1.out 0; have k1 := Lw.blk_cell B1.out 1; have k2 := Lw.blk_cell B1.out 2
  simp at l0 l1 l2 k0 k1 k2
  have hBW : Below w.heap.size w W := by rw [← hW]; exact Lw.balloc (Lw.balloc (Lw.balloc (Below.refl _ _) _) _) _
  have hWs : w.heap.size + 1 + 1 < W.heap.size := by rw [← hW]; simp
  have M := Lib.hid (fun w => curve_mod P A B (-Y) w h1 h2)
  have HW := Lib.hid hW
  clear hW B0
  go_enter Try.func24, Try.ntmps24
  go_wp2_with fail
  (try rw [HW.out])
  refine (M.out _).mono ?_
  rintro e w1 ⟨rfl, hb1⟩
  have C1 := (hb1.block (w.heap.size + 1) (by omega)).trans B1.out
  have C2 := (hb1.block (w.heap.size + 1 + 1) (by omega)).trans B2.out
  have f1 := Lw.blk_free C1 1
  obtain ⟨v, hv⟩ : ∃ v, (-Y) % P = v := ⟨_, rfl⟩
  have D1 := Lw.blk_set_same C1 1 (.int .i64 v)
  have D2 := Lw.blk_set_other C2 (by omega : w.heap.size + 1 + 1 ≠ w.heap.size + 1) 1 (.int .i64 v)
  have c1 := Lw.blk_cell C1 1
  have d0 := Lw.blk_cell D1 0; have d1 := Lw.blk_cell D1 1; have d2 := Lw.blk_cell D1 2
  have e0 := Lw.blk_cell D2 0; have e1 := Lw.blk_cell D2 1; have e2 := Lw.blk_cell D2 2
  have g0 := Lw.blk_free D2 0; have g1 := Lw.blk_free D2 1; have g2 := Lw.blk_free D2 2
  simp at c1 d0 d1 d2 e0 e1 e2
  have N : Hid ((Lw.negT P ⟨X, Y, F⟩).v = .agg #[.int .i64 X, .int .i64 v, .bool F]) := by rw [← hv]; exact rfl
  rw [hv]
  have HB := Lib.hid (Lw.bset (Lw.bt hBW hb1) (by omega : w.heap.size ≤ w.heap.size + 1) (p := ⟨w.heap.size + 1, 1, none⟩) (.int .i64 v))
  obtain ⟨V, hV⟩ : ∃ V, w1.setCell ⟨w.heap.size + 1, 1, none⟩ (.int .i64 v) = V := ⟨_, rfl⟩
  rw [hV] at D1 D2 d0 d1 d2 e0 e1 e2 g0 g1 g2 HB
  obtain ⟨r0, r1, r2⟩ := Lw.set3c (x := .int .i64 X) (y := .int .i64 v) (z := .bool F) D2
  have r0 := Lib.hid r0; have r1 := Lib.hid r1; have r2 := Lib.hid r2
  clear D1 D2 C1 C2 B1 B2 hv
  go_wp2_with fail
  (try rw [hV])
  refine bodyPost_ret (v := .agg #[.int .i64 X, .int .i64 v, .bool F]) (by simp only [results, Try.results24]; simp [go_sem, r0.out, r1.out, r2.out]) rfl ⟨by rw [N.out], Lw.bset3 HB.out (by omega) _ _ _⟩
set_option maxHeartbeats 2000000 in
theorem ref_SpotNeg (P A B X Y : Int) (F : Bool) (w : World) (hc : Lw.crvR P A B) (h : Lw.spotB P A B X Y F = true) :
    Calls Try.prog 30 #[.agg #[.int .i64 P, .int .i64 A, .int .i64 B], .agg #[.int .i64 X, .int .i64 Y, .bool F]] w fun e w' => e = .returned (Lw.negT P ⟨X, Y, F⟩).v ∧ Below w.heap.size w w' := by
  obtain ⟨p1, p2, -⟩ := hc
  rcases Lw.neg_ref (by omega : 0 < P) h with ⟨hF, e⟩ | ⟨rfl, hy, y0, y1, e⟩
  · have NV : Hid ((Lw.negT P ⟨X, Y, F⟩).v = .agg #[.int .i64 X, .int .i64 Y, .bool F]) := by rw [e]; exact rfl
    clear e h
    rcases hF with rfl | ⟨rfl, rfl⟩
    all_goals
      go_enter Try.func30, Try.ntmps30
      go_wp2_with fail
      refine bodyPost_ret (v := _) (by simp only [results, Try.results30]; simp [go_sem]; rfl) rfl ⟨by rw [NV.out], by (repeat (first | exact Below.refl _ _ | refine Lw.bt ?_ (by assumption) | refine Lw.balloc ?_ _ | refine Lw.bdrewN ?_ _ | refine Below.drew ?_ | refine Lw.bset ?_ (by first | (simp; done) | (simp; omega) | omega) _))⟩
  · have NV : Hid ((Lw.negT P ⟨X, Y, false⟩).v = .agg #[.int .i64 X, .int .i64 (P - Y), .bool false]) := by rw [e]; exact rfl
    have hy0 : (Y == 0) = false := by simpa using hy
    clear e h
    go_enter Try.func30, Try.ntmps30
    go_wp2_with fail
    refine bodyPost_ret (v := .agg #[.int .i64 X, .int .i64 (P - Y), .bool false]) (by simp only [results, Try.results30]; simp [go_sem]) rfl ⟨by rw [NV.out], by (repeat (first | exact Below.refl _ _ | refine Lw.bt ?_ (by assumption) | refine Lw.balloc ?_ _ | refine Lw.bdrewN ?_ _ | refine Below.drew ?_ | refine Lw.bset ?_ (by first | (simp; done) | (simp; omega) | omega) _))⟩
end Go.Proofs.Ytafefengppiobaa
set_option linter.unusedVariables false
set_option linter.unusedSimpArgs false
namespace Go.Proofs.Ytafefengppiobaa
open Go.RowKit
set_option maxHeartbeats 1000000 in
theorem law_spot (P A B X Y : Int) (F : Bool) (w : World) :
    Calls Try.prog 9 #[.agg #[.int .i64 P, .int .i64 A, .int .i64 B], .agg #[.int .i64 X, .int .i64 Y, .bool F]] w fun e w' => e = .returned (.int .i64 (Lw.oneE P A B ⟨X, Y, F⟩)) ∧ Below w.heap.size w w' := by
  have CK := fun w => ref_CurveCheck P A B w
  by_cases hc : Lw.crvE P A B = 0
  · have SP := fun w => ref_Spot P A B X Y F w (Lw.of_crv hc).1
    rw [hc] at CK
    replace CK := Lib.hid CK
    rcases hs : Lw.spotB P A B X Y F with _ | _
    · have E := Lib.hid (Lw.one_form (s := ⟨X, Y, F⟩) hc hs)
      rw [hs] at SP
      replace SP := Lib.hid SP
      clear hc hs
      go_enter Try.func9, Try.ntmps9
      go_wp2_with (first | (go_at_call 16; (with_reducible refine (CK.out _).mono ?_); rintro e w1 ⟨rfl, hb1⟩; obtain ⟨hc1, hf1⟩ := Lw.bcell hb1; have hz1 := hb1.size; (try simp at hz1); have hy1_00 : w.heap.size < w1.heap.size := (by omega); have hy1_01 : w.heap.size < w1.heap.size + 1 := (by omega); have hy1_02 : w.heap.size < w1.heap.size + 1 + 1 := (by omega); have hy1_10 : w.heap.size + 1 < w1.heap.size := (by omega); have hy1_11 : w.heap.size + 1 < w1.heap.size + 1 := (by omega); have hy1_12 : w.heap.size + 1 < w1.heap.size + 1 + 1 := (by omega)) | (go_at_call 17; (with_reducible refine (SP.out _).mono ?_); rintro e w2 ⟨rfl, hb2⟩))
      go_ret
      exact ⟨by rw [E.out]; rfl, by (repeat (first | exact Below.refl _ _ | refine Lw.bt ?_ (by assumption) | refine Lw.balloc ?_ _ | refine Lw.bdrewN ?_ _ | refine Below.drew ?_ | refine Lw.bset ?_ (by first | (simp; done) | (simp; omega) | omega) _))⟩
    · have E := Lib.hid (Lw.one_ok (s := ⟨X, Y, F⟩) hc hs)
      rw [hs] at SP
      replace SP := Lib.hid SP
      clear hc hs
      go_enter Try.func9, Try.ntmps9
      go_wp2_with (first | (go_at_call 16; (with_reducible refine (CK.out _).mono ?_); rintro e w1 ⟨rfl, hb1⟩; obtain ⟨hc1, hf1⟩ := Lw.bcell hb1; have hz1 := hb1.size; (try simp at hz1); have hy1_00 : w.heap.size < w1.heap.size := (by omega); have hy1_01 : w.heap.size < w1.heap.size + 1 := (by omega); have hy1_02 : w.heap.size < w1.heap.size + 1 + 1 := (by omega); have hy1_10 : w.heap.size + 1 < w1.heap.size := (by omega); have hy1_11 : w.heap.size + 1 < w1.heap.size + 1 := (by omega); have hy1_12 : w.heap.size + 1 < w1.heap.size + 1 + 1 := (by omega)) | (go_at_call 17; (with_reducible refine (SP.out _).mono ?_); rintro e w2 ⟨rfl, hb2⟩))
      go_ret
      exact ⟨by rw [E.out]; rfl, by (repeat (first | exact Below.refl _ _ | refine Lw.bt ?_ (by assumption) | refine Lw.balloc ?_ _ | refine Lw.bdrewN ?_ _ | refine Below.drew ?_ | refine Lw.bset ?_ (by first | (simp; done) | (simp; omega) | omega) _))⟩
  · have E := Lib.hid (Lw.one_bad (s := ⟨X, Y, F⟩) hc)
    have h1 : (Lw.crvE P A B == 0) = false := by simpa using hc
    replace CK := Lib.hid CK
    clear hc
    go_enter Try.func9, Try.ntmps9
    go_wp2_with (go_at_call 16; (with_reducible refine (CK.out _).mono ?_); rintro e w1 ⟨rfl, hb1⟩; obtain ⟨hc1, hf1⟩ := Lw.bcell hb1; have hz1 := hb1.size; (try simp at hz1); have hy1_00 : w.heap.size < w1.heap.size := (by omega); have hy1_01 : w.heap.size < w1.heap.size + 1 := (by omega); have hy1_02 : w.heap.size < w1.heap.size + 1 + 1 := (by omega); have hy1_10 : w.heap.size + 1 < w1.heap.size := (by omega); have hy1_11 : w.heap.size + 1 < w1.heap.size + 1 := (by omega); have hy1_12 : w.heap.size + 1 < w1.heap.size + 1 + 1 := (by omega))
    go_ret
    exact ⟨by rw [E.out]; rfl, by (repeat (first | exact Below.refl _ _ | refine Lw.bt ?_ (by assumption) | refine Lw.balloc ?_ _ | refine Lw.bdrewN ?_ _ | refine Below.drew ?_ | refine Lw.bset ?_ (by first | (simp; done) | (simp; omega) | omega) _))⟩
end Go.Proofs.Ytafefengppiobaa
namespace Lw
theorem inv_spec {a m : Int} (hm : 0 < m) (hm2 : m ≤ 1048576) (ha : 0 ≤ a) (ha2 : a < m) (h : gcdI a m = 1) : invE a m = 0 ∧ invR a m * a % m = 1 % m ∧ 0 ≤ invR a m ∧ invR a m < m := by
  obtain ⟨e1, e2⟩ := invE_zero (a := a) (m := m) (by omega) h
  obtain ⟨g, x, h1, h2, _, h4⟩ := exists_step a m
  rw [h] at h1
  have hg : g = 1 := by have := h4 ha (by omega); unfold absI at h1; omega
  subst hg
  have h5 : x % m * a % m = 1 % m := by rw [mul_emod_left]; exact emod_of_dvd_sub h2
  have e3 := invI_eq (a := a) (Int.emod_nonneg x (by omega)) (Int.emod_lt_of_pos x hm) h5
  rw [e2, e3]
  exact ⟨e1, h5, Int.emod_nonneg x (by omega), Int.emod_lt_of_pos x hm⟩
theorem prime_gcdI {P : Int} (hp : primeB P = true) {b : Int} (b0 : 0 ≤ b) (b1 : b < P) (hb : ¬ b = 0) : gcdI b P = 1 := by
  have hp' : Prime P.toNat := by simpa [primeB] using hp
  have h := hp'.coprime (a := b.toNat) (fun e => by have := Nat.le_of_dvd (by omega) e; omega)
  unfold gcdI
  rw [Int.gcd, show b.natAbs = b.toNat by omega, show P.natAbs = P.toNat by omega, Nat.gcd_comm, h]; rfl
/-- a quotient, as the program reckons it -/
def ovI (P a b : Int) : Int := a % P * invR (b % P) P % P
theorem invR_bd {a m : Int} (hm : 0 < m) : 0 ≤ invR a m ∧ invR a m < m ∨ (invR a m = 0) := by
  unfold invR
  split
  · rename_i h
    by_cases hm2 : a < -2147483648 ∨ 2147483648 < a ∨ m < 1 ∨ 1048576 < m
    · rw [(invE_two hm2).1] at h; cases h
    · by_cases hg : gcdI a m = 1
      · obtain ⟨g, x, h1, h2, _, h4⟩ := exists_step a m
        left
        have hlt : invI a m < m ∧ 0 ≤ invI a m := by
          unfold invI
          cases hf : (List.range m.toNat).find? (fun (i : Nat) => decide ((i : Int) * a % m = 1 % m)) with
          | none => simp; omega
          | some j =>
            have := List.mem_of_find?_eq_some hf
            simp at this ⊢; omega
        omega
      · rw [(invE_five hm2 hg).1] at h; cases h
  · exact .inr rfl
theorem ovI_bd {P : Int} (hP : 0 < P) (a b : Int) : 0 ≤ ovI P a b ∧ ovI P a b < P := emod_bd _ _ hP
theorem ovI_ok {P a b : Int} (hp : primeB P = true) (h1 : 1 ≤ P) (h2 : P ≤ 1048576) (hb : ¬ b % P = 0) : (ovI P a b * (b % P) - a) % P = 0 := by
  have b0 := Int.emod_nonneg b (by omega : P ≠ 0)
  have b1 := Int.emod_lt_of_pos b (by omega : 0 < P)
  obtain ⟨_, i1, _, _⟩ := inv_spec (a := b % P) (m := P) (by omega) h2 b0 b1 (prime_gcdI hp b0 b1 hb)
  unfold ovI
  obtain ⟨q, hq⟩ := emod_sub_q (a % P * invR (b % P) P) P
  obtain ⟨r, hr⟩ := emod_sub_q a P
  obtain ⟨k, hk⟩ := emod_zero_of i1
  rw [hq, hr]
  generalize invR (b % P) P = i at *
  generalize b % P = c at *
  have e : ((a - P * r) * i - P * q) * c - a = 0 + P * (a * k - r * i * c - q * c) := by grind
  rw [e, Int.add_mul_emod_self_left]; rfl
theorem prime_dvd_mul {P a b : Int} (hp : primeB P = true) (h : (a * b) % P = 0) : a % P = 0 ∨ b % P = 0 := by
  have hp' : Prime P.toNat := by simpa [primeB] using hp
  have hP := hp'.1
  by_cases ha : a % P = 0
  · exact .inl ha
  · right
    have a0 := Int.emod_nonneg a (by omega : P ≠ 0)
    have a1 := Int.emod_lt_of_pos a (by omega : 0 < P)
    have hg := prime_gcdI hp a0 a1 ha
    obtain ⟨g, x, h1, h2, _, h4⟩ := exists_step (a % P) P
    rw [hg] at h1
    have hg1 : g = 1 := by have := h4 a0 (by omega); unfold absI at h1; omega
    subst hg1
    obtain ⟨k, hk⟩ := h2
    obtain ⟨q, hq⟩ := emod_sub_q a P
    obtain ⟨r, hr⟩ := emod_zero_of (a := a * b) (b := 0) (P := P) (by rw [h]; rfl)
    rw [hq] at hk
    have e : b = 0 + P * (x * r - x * q * b - k * b) := by grind
    rw [e, Int.add_mul_emod_self_left]; rfl
theorem ov_unique {P a b i j : Int} (hp : primeB P = true) (hb : ¬ b % P = 0) (i0 : 0 ≤ i) (i1 : i < P) (j0 : 0 ≤ j) (j1 : j < P) (h1 : (i * (b % P) - a) % P = 0) (h2 : (j * (b % P) - a) % P = 0) : i = j := by
  obtain ⟨u, hu⟩ := emod_zero_of (b := 0) (P := P) (by rw [h1]; rfl)
  obtain ⟨v, hv⟩ := emod_zero_of (b := 0) (P := P) (by rw [h2]; rfl)
  have e : ((i - j) * (b % P)) % P = 0 := by
    have : (i - j) * (b % P) = 0 + P * (u - v) := by grind
    rw [this, Int.add_mul_emod_self_left]; rfl
  rcases prime_dvd_mul hp e with h | h
  · have := Int.dvd_of_emod_eq_zero h
    obtain ⟨k, hk⟩ := this
    have : k = 0 := by
      rcases Int.lt_trichotomy k 0 with h | h | h
      · have : P * k ≤ P * (-1) := Int.mul_le_mul_of_nonneg_left (by omega) (by omega); omega
      · exact h
      · have : P * 1 ≤ P * k := Int.mul_le_mul_of_nonneg_left (by omega) (by omega); omega
    subst this; omega
  · rw [Int.emod_emod] at h; exact absurd h hb
/-- the sum, as both reckon it -/
def slopeI (P A : Int) (s t : SpotT) : Int := if s.X = t.X ∧ s.Y = t.Y then ovI P (3 * s.X * s.X + A) (2 * s.Y) else ovI P (t.Y - s.Y) (t.X - s.X)
def sumX (P k : Int) (s t : SpotT) : Int := (k * k - s.X - t.X) % P
def sumY (P k x : Int) (s : SpotT) : Int := (k * (s.X - x) - s.Y) % P
def addT (P A : Int) (s t : SpotT) : SpotT :=
  if s.F then t else if t.F then s else if s.X = t.X ∧ s.Y = (-t.Y) % P then ⟨0, 0, true⟩
  else ⟨sumX P (slopeI P A s t) s t, sumY P (slopeI P A s t) (sumX P (slopeI P A s t) s t) s, false⟩
end Lw
set_option linter.unusedVariables false
set_option linter.unusedSimpArgs false
namespace Go.Proofs.Ytafefengppiobaa
open Go.RowKit
set_option maxHeartbeats 1000000 in
theorem curve_over (P A B a b : Int) (w : World) (h1 : 0 < P) (h2 : P ≤ 1009) :
    Calls Try.prog 25 #[.agg #[.int .i64 P, .int .i64 A, .int .i64 B], .int .i64 a, .int .i64 b] w fun e w' => e = .returned (.int .i64 (Lw.ovI P a b)) ∧ Below w.heap.size w w' := by
  have hP0 : ¬ P = 0 := by omega
  have M1 := Lib.hid (fun w => curve_mod P A B b w h1 h2)
  have M2 := Lib.hid (fun w => curve_mod P A B a w h1 h2)
  have I := Lib.hid (fun w => euclid_Inverse (b % P) P w)
  have a0 := Int.emod_nonneg a hP0
  have a1 := Int.emod_lt_of_pos a h1
  have ib := Lw.invR_bd (a := b % P) h1
  have O : Hid (Lw.ovI P a b = a % P * Lw.invR (b % P) P % P) := rfl
  obtain ⟨i, hi⟩ : ∃ i, Lw.invR (b % P) P = i := ⟨_, rfl⟩
  rw [hi] at I ib O
  obtain ⟨m0, m1⟩ := Lw.mul_bd' (a % P) i 1009 a0 (by omega) (by omega) (by omega)
  have e1 : IntKind.i64.wrap (a % P * i) = a % P * i := by rw [IntKind.wrap_i64]; omega
  have e2 : (a % P * i).tmod P = a % P * i % P := Int.tmod_eq_emod_of_nonneg m0
  obtain ⟨W, hW⟩ : ∃ W, w.alloc (.cells #[.int .i64 P, .int .i64 A, .int .i64 B] 44) = W := ⟨_, rfl⟩
  have B0 := show W.heap[w.heap.size]? = some (.cells #[.int .i64 P, .int .i64 A, .int .i64 B] 44 (0, 0)) from hW ▸ Lw.blk_new _ _ _
  have l0 := Lw.blk_cell B0 0; have l1 := Lw.blk_cell B0 1; have l2 := Lw.blk_cell B0 2
  simp at l0 l1 l2
  have hBW : Below w.heap.size w W := by rw [← hW]; exact Lw.balloc (Below.refl _ _) _
  have hWs : w.heap.size < W.heap.size := by rw [← hW]; simp
  have HW := Lib.hid hW
  clear hW B0 hi ib
  go_enter Try.func25, Try.ntmps25
  go_wp2_with fail
  rw [HW.out]
  refine wp_region_held_drew (S := Lw.Sm W) (by kernel_rfl) (Lw.sm_drew W) (fun hHeld => ?_)
  (refine Lw.take1 (i := 0) (v := ?_) rfl (by kernel_rfl) (by kernel_rfl) (by kernel_rfl) (fun _ _ _ h => h) (Or.inl ⟨by rfl, ?_⟩) (by assumption) ?_; rotate_left 1; (focus (intro wS hSw; obtain ⟨hS1, hS2, hS3, hS4⟩ := hSw; go_simp <;> with_reducible rfl)); (try simp only [Act.put, List.setIfInBounds_toArray, List.set_cons_zero, List.set_cons_succ]))
  (refine Lw.take1 (i := 1) (v := ?_) rfl (by kernel_rfl) (by kernel_rfl) (by kernel_rfl) (fun _ _ _ h => h) (Or.inl ⟨by rfl, ?_⟩) (by assumption) ?_; rotate_left 1; (focus (intro wS hSw; obtain ⟨hS1, hS2, hS3, hS4⟩ := hSw; go_simp <;> with_reducible rfl)); (try simp only [Act.put, List.setIfInBounds_toArray, List.set_cons_zero, List.set_cons_succ]))
  (refine Lw.take1 (i := 3) (v := ?_) rfl (by kernel_rfl) (by kernel_rfl) (by kernel_rfl) (fun _ _ _ h => h) (Or.inl ⟨by rfl, ?_⟩) (by assumption) ?_; rotate_left 1; (focus (intro wS hSw; obtain ⟨hS1, hS2, hS3, hS4⟩ := hSw; go_simp <;> with_reducible rfl)); (try simp only [Act.put, List.setIfInBounds_toArray, List.set_cons_zero, List.set_cons_succ]))
  (refine Lw.take1 (i := 4) (v := ?_) rfl (by kernel_rfl) (by kernel_rfl) (by kernel_rfl) (fun _ _ _ h => h) (Or.inl ⟨by rfl, ?_⟩) (by assumption) ?_; rotate_left 1; (focus (intro wS hSw; obtain ⟨hS1, hS2, hS3, hS4⟩ := hSw; go_simp <;> with_reducible rfl)); (try simp only [Act.put, List.setIfInBounds_toArray, List.set_cons_zero, List.set_cons_succ]))
  (refine Lw.take1 (i := 5) (v := ?_) rfl (by kernel_rfl) (by kernel_rfl) (by kernel_rfl) (fun _ _ _ h => h) (Or.inl ⟨by rfl, ?_⟩) (by assumption) ?_; rotate_left 1; (focus (intro wS hSw; obtain ⟨hS1, hS2, hS3, hS4⟩ := hSw; go_simp <;> with_reducible rfl)); (try simp only [Act.put, List.setIfInBounds_toArray, List.set_cons_zero, List.set_cons_succ]))
  (refine wpAnyH_ready (rs := [2]) (by kernel_rfl) (by simp) ?_; refine Lw.cons1 (i := 2) rfl (fun K hK => ?_) AllReadyH.nil; go_simp; go_at_call 26; (with_reducible refine (M1.out _).mono ?_); rintro e wx ⟨rfl, hbx⟩; refine hK.out _ _ ?_ (fun hHeld => ?_); (focus exact Lw.sm_keep (Lw.sm_drew W) hbx); clear hK K; (try simp only [Act.put, List.setIfInBounds_toArray, List.set_cons_zero, List.set_cons_succ]))
  (refine wpAnyH_ready (rs := [6]) (by kernel_rfl) (by simp) ?_; refine Lw.cons1 (i := 6) rfl (fun K hK => ?_) AllReadyH.nil; go_simp; go_at_call 35; (with_reducible refine (I.out _).mono ?_); rintro e wy ⟨rfl, hby⟩; refine hK.out _ _ ?_ (fun hHeld => ?_); (focus exact Lw.sm_keep (Lw.sm_keep (Lw.sm_drew W) hbx) hby); clear hK K; (try simp only [Act.put, List.setIfInBounds_toArray, List.set_cons_zero, List.set_cons_succ]))
  (refine Lw.take1 (i := 7) (v := ?_) rfl (by kernel_rfl) (by kernel_rfl) (by kernel_rfl) (fun _ _ _ h => h) (Or.inl ⟨by rfl, ?_⟩) (by assumption) ?_; rotate_left 1; (focus (intro wS hSw; obtain ⟨hS1, hS2, hS3, hS4⟩ := hSw; go_simp <;> with_reducible rfl)); (try simp only [Act.put, List.setIfInBounds_toArray, List.set_cons_zero, List.set_cons_succ]))
  (refine Lw.take1 (i := 8) (v := ?_) rfl (by kernel_rfl) (by kernel_rfl) (by kernel_rfl) (fun _ _ _ h => h) (Or.inl ⟨by rfl, ?_⟩) (by assumption) ?_; rotate_left 1; (focus (intro wS hSw; obtain ⟨hS1, hS2, hS3, hS4⟩ := hSw; go_simp <;> with_reducible rfl)); (try simp only [Act.put, List.setIfInBounds_toArray, List.set_cons_zero, List.set_cons_succ]))
  (refine Lw.take1 (i := 9) (v := ?_) rfl (by kernel_rfl) (by kernel_rfl) (by kernel_rfl) (fun _ _ _ h => h) (Or.inl ⟨by rfl, ?_⟩) (by assumption) ?_; rotate_left 1; (focus (intro wS hSw; obtain ⟨hS1, hS2, hS3, hS4⟩ := hSw; go_simp <;> with_reducible rfl)); (try simp only [Act.put, List.setIfInBounds_toArray, List.set_cons_zero, List.set_cons_succ]))
  (refine Lw.take1 (i := 10) (v := ?_) rfl (by kernel_rfl) (by kernel_rfl) (by kernel_rfl) (fun _ _ _ h => h) (Or.inl ⟨by rfl, ?_⟩) (by assumption) ?_; rotate_left 1; (focus (intro wS hSw; obtain ⟨hS1, hS2, hS3, hS4⟩ := hSw; go_simp <;> with_reducible rfl)); (try simp only [Act.put, List.setIfInBounds_toArray, List.set_cons_zero, List.set_cons_succ]))
  (refine Lw.take1 (i := 11) (v := ?_) rfl (by kernel_rfl) (by kernel_rfl) (by kernel_rfl) (fun _ _ _ h => h) (Or.inl ⟨by rfl, ?_⟩) (by assumption) ?_; rotate_left 1; (focus (intro wS hSw; obtain ⟨hS1, hS2, hS3, hS4⟩ := hSw; go_simp <;> with_reducible rfl)); (try simp only [Act.put, List.setIfInBounds_toArray, List.set_cons_zero, List.set_cons_succ]))
  refine wpAnyH_done (by kernel_rfl) ?_ _
  have hS := Lw.sm_drew' (Lw.sm_keep (Lw.sm_keep (Lw.sm_drew W) hbx) hby)
  go_wp2_with fail
  refine wp_region_held_drew (S := Lw.Sm W) (by kernel_rfl) hS (fun hHeld => ?_)
  (refine Lw.take1 (i := 0) (v := ?_) rfl (by kernel_rfl) (by kernel_rfl) (by kernel_rfl) (fun _ _ _ h => h) (Or.inl ⟨by rfl, ?_⟩) (by assumption) ?_; rotate_left 1; (focus (intro wS hSw; obtain ⟨hS1, hS2, hS3, hS4⟩ := hSw; go_simp <;> with_reducible rfl)); (try simp only [Act.put, List.setIfInBounds_toArray, List.set_cons_zero, List.set_cons_succ]))
  (refine Lw.take1 (i := 1) (v := ?_) rfl (by kernel_rfl) (by kernel_rfl) (by kernel_rfl) (fun _ _ _ h => h) (Or.inl ⟨by rfl, ?_⟩) (by assumption) ?_; rotate_left 1; (focus (intro wS hSw; obtain ⟨hS1, hS2, hS3, hS4⟩ := hSw; go_simp <;> with_reducible rfl)); (try simp only [Act.put, List.setIfInBounds_toArray, List.set_cons_zero, List.set_cons_succ]))
  (refine Lw.take1 (i := 3) (v := ?_) rfl (by kernel_rfl) (by kernel_rfl) (by kernel_rfl) (fun _ _ _ h => h) (Or.inl ⟨by rfl, ?_⟩) (by assumption) ?_; rotate_left 1; (focus (intro wS hSw; obtain ⟨hS1, hS2, hS3, hS4⟩ := hSw; go_simp <;> with_reducible rfl)); (try simp only [Act.put, List.setIfInBounds_toArray, List.set_cons_zero, List.set_cons_succ]))
  (refine Lw.take1 (i := 5) (v := ?_) rfl (by kernel_rfl) (by kernel_rfl) (by kernel_rfl) (fun _ _ _ h => h) (Or.inl ⟨by rfl, ?_⟩) (by assumption) ?_; rotate_left 1; (focus (intro wS hSw; obtain ⟨hS1, hS2, hS3, hS4⟩ := hSw; go_simp <;> with_reducible rfl)); (try simp only [Act.put, List.setIfInBounds_toArray, List.set_cons_zero, List.set_cons_succ]))
  (refine Lw.take1 (i := 6) (v := ?_) rfl (by kernel_rfl) (by kernel_rfl) (by kernel_rfl) (fun _ _ _ h => h) (Or.inl ⟨by rfl, ?_⟩) (by assumption) ?_; rotate_left 1; (focus (intro wS hSw; obtain ⟨hS1, hS2, hS3, hS4⟩ := hSw; go_simp <;> with_reducible rfl)); (try simp only [Act.put, List.setIfInBounds_toArray, List.set_cons_zero, List.set_cons_succ]))
  (refine Lw.take1 (i := 7) (v := ?_) rfl (by kernel_rfl) (by kernel_rfl) (by kernel_rfl) (fun _ _ _ h => h) (Or.inl ⟨by rfl, ?_⟩) (by assumption) ?_; rotate_left 1; (focus (intro wS hSw; obtain ⟨hS1, hS2, hS3, hS4⟩ := hSw; go_simp <;> with_reducible rfl)); (try simp only [Act.put, List.setIfInBounds_toArray, List.set_cons_zero, List.set_cons_succ]))
  (refine wpAnyH_ready (rs := [2]) (by kernel_rfl) (by simp) ?_; refine Lw.cons1 (i := 2) rfl (fun K hK => ?_) AllReadyH.nil; go_simp; go_at_call 26; (with_reducible refine (M2.out _).mono ?_); rintro e wz ⟨rfl, hbz⟩; refine hK.out _ _ ?_ (fun hHeld => ?_); (focus exact Lw.sm_keep hS hbz); clear hK K; (try simp only [Act.put, List.setIfInBounds_toArray, List.set_cons_zero, List.set_cons_succ]))
  (refine Lw.take1 (i := 4) (v := ?_) rfl (by kernel_rfl) (by kernel_rfl) (by kernel_rfl) (fun _ _ _ h => h) (Or.inl ⟨by rfl, ?_⟩) (by assumption) ?_; rotate_left 1; (focus (intro wS hSw; obtain ⟨hS1, hS2, hS3, hS4⟩ := hSw; go_simp <;> with_reducible rfl)); (try simp only [Act.put, List.setIfInBounds_toArray, List.set_cons_zero, List.set_cons_succ]))
  (refine Lw.take1 (i := 8) (v := ?_) rfl (by kernel_rfl) (by kernel_rfl) (by kernel_rfl) (fun _ _ _ h => h) (Or.inl ⟨by rfl, ?_⟩) (by assumption) ?_; rotate_left 1; (focus (intro wS hSw; obtain ⟨hS1, hS2, hS3, hS4⟩ := hSw; go_simp <;> with_reducible rfl)); (try simp only [Act.put, List.setIfInBounds_toArray, List.set_cons_zero, List.set_cons_succ]))
  (refine Lw.take1 (i := 9) (v := ?_) rfl (by kernel_rfl) (by kernel_rfl) (by kernel_rfl) (fun _ _ _ h => h) (Or.inl ⟨by rfl, ?_⟩) (by assumption) ?_; rotate_left 1; (focus (intro wS hSw; obtain ⟨hS1, hS2, hS3, hS4⟩ := hSw; go_simp <;> with_reducible rfl)); (try simp only [Act.put, List.setIfInBounds_toArray, List.set_cons_zero, List.set_cons_succ]))
  refine wpAnyH_done (by kernel_rfl) ?_ _
  go_wp2
  go_ret
  exact ⟨Lw.ret_int O.out.symm, Lw.bt hBW (Lw.sm_keep hS hbz).2.2.2⟩
end Go.Proofs.Ytafefengppiobaa
namespace Lw
open Go Go.RowKit
theorem addT_far1 {P A : Int} {s t : SpotT} (h : s.F = true) : addT P A s t = t := by unfold addT; rw [if_pos h]
theorem addT_far2 {P A : Int} {s t : SpotT} (h : s.F = false) (h2 : t.F = true) : addT P A s t = s := by unfold addT; rw [if_neg (by simp [h]), if_pos h2]
theorem addT_neg {P A : Int} {s t : SpotT} (h : s.F = false) (h2 : t.F = false) (h3 : s.X = t.X ∧ s.Y = (-t.Y) % P) : addT P A s t = ⟨0, 0, true⟩ := by unfold addT; rw [if_neg (by simp [h]), if_neg (by simp [h2]), if_pos h3]
theorem addT_sum {P A : Int} {s t : SpotT} (h : s.F = false) (h2 : t.F = false) (h3 : ¬ (s.X = t.X ∧ s.Y = (-t.Y) % P)) {k : Int} (hk : slopeI P A s t = k) : addT P A s t = ⟨sumX P k s t, sumY P k (sumX P k s t) s, false⟩ := by
  subst hk; unfold addT; rw [if_neg (by simp [h]), if_neg (by simp [h2]), if_neg h3]
end Lw
set_option linter.unusedVariables false
set_option linter.unusedSimpArgs false
namespace Go.Proofs.Ytafefengppiobaa
open Go.RowKit
set_option maxHeartbeats 2000000 in
theorem curve_add_far (P A B X Y X' Y' : Int) (F F' : Bool) (w : World) (h : F = true ∨ F' = true) :
    Calls Try.prog 15 #[.agg #[.int .i64 P, .int .i64 A, .int .i64 B], .agg #[.int .i64 X, .int .i64 Y, .bool F], .agg #[.int .i64 X', .int .i64 Y', .bool F']] w fun e w' => e = .returned (Lw.addT P A ⟨X, Y, F⟩ ⟨X', Y', F'⟩).v ∧ Below w.heap.size w w' := by
  cases F with
  | true =>
    have E : Hid ((Lw.addT P A ⟨X, Y, true⟩ ⟨X', Y', F'⟩).v = .agg #[.int .i64 X', .int .i64 Y', .bool F']) := by rw [Lw.addT_far1 rfl]; exact rfl
    clear h
    go_enter Try.func15, Try.ntmps15
    go_wp2_with fail
    refine bodyPost_ret (v := .agg #[.int .i64 X', .int .i64 Y', .bool F']) (by simp only [results, Try.results15]; simp [go_sem]) rfl ⟨by rw [E.out], by (repeat (first | exact Below.refl _ _ | refine Lw.bt ?_ (by assumption) | refine Lw.balloc ?_ _ | refine Lw.bdrewN ?_ _ | refine Below.drew ?_ | refine Lw.bset ?_ (by first | (simp; done) | (simp; omega) | omega) _))⟩
  | false =>
    have h' : F' = true := by simpa using h
    subst h'
    have E : Hid ((Lw.addT P A ⟨X, Y, false⟩ ⟨X', Y', true⟩).v = .agg #[.int .i64 X, .int .i64 Y, .bool false]) := by rw [Lw.addT_far2 rfl rfl]; exact rfl
    clear h
    go_enter Try.func15, Try.ntmps15
    go_wp2_with fail
    refine bodyPost_ret (v := .agg #[.int .i64 X, .int .i64 Y, .bool false]) (by simp only [results, Try.results15]; simp [go_sem]) rfl ⟨by rw [E.out], by (repeat (first | exact Below.refl _ _ | refine Lw.bt ?_ (by assumption) | refine Lw.balloc ?_ _ | refine Lw.bdrewN ?_ _ | refine Below.drew ?_ | refine Lw.bset ?_ (by first | (simp; done) | (simp; omega) | omega) _))⟩
set_option maxHeartbeats 2000000 in
theorem curve_add_neg (P A B X Y X' Y' : Int) (w : World) (h1 : 0 < P) (h2 : P ≤ 1009) (y0 : 0 ≤ Y') (y1 : Y' ≤ 1009) (hx : X = X') (hy : Y = (-Y') % P) :
    Calls Try.prog 15 #[.agg #[.int .i64 P, .int .i64 A, .int .i64 B], .agg #[.int .i64 X, .int .i64 Y, .bool false], .agg #[.int .i64 X', .int .i64 Y', .bool false]] w fun e w' => e = .returned (Lw.addT P A ⟨X, Y, false⟩ ⟨X', Y', false⟩).v ∧ Below w.heap.size w w' := by
  have E : Hid ((Lw.addT P A ⟨X, Y, false⟩ ⟨X', Y', false⟩).v = .agg #[.int .i64 0, .int .i64 0, .bool true]) := by rw [Lw.addT_neg rfl rfl ⟨hx, hy⟩]; exact rfl
  have NG := fun w => curve_neg P A B X' Y' false w h1 h2 (by omega) (by omega)
  have NV : (Lw.negT P ⟨X', Y', false⟩).v = .agg #[.int .i64 X', .int .i64 Y, .bool false] := by unfold Lw.negT; rw [hy]; exact rfl
  rw [NV] at NG
  replace NG := Lib.hid NG
  have t1 : (X == X') = true := by simpa using hx
  clear NV hy hx
  obtain ⟨W, hW⟩ : ∃ W, (((w.alloc (.cells #[.int .i64 P, .int .i64 A, .int .i64 B] 44)).alloc (.cells #[.int .i64 X, .int .i64 Y, .bool false] 32)).alloc (.cells #[.int .i64 X', .int .i64 Y', .bool false] 32)).alloc (.cells #[.int .i64 0, .int .i64 0, .bool false] 32) = W := ⟨_, rfl⟩
  have B0 := show W.heap[w.heap.size]? = some (.cells #[.int .i64 P, .int .i64 A, .int .i64 B] 44 (0, 0)) from hW ▸ Lw.blk_alloc (Lw.blk_alloc (Lw.blk_alloc (Lw.blk_new _ _ _) _) _) _
  have B1 := show W.heap[w.heap.size + 1]? = some (.cells #[.int .i64 X, .int .i64 Y, .bool false] 32 (0, 0)) from hW ▸ Lw.blk_alloc (Lw.blk_alloc (Lw.blk_new' (by simp) _ _) _) _
  have B2 := show W.heap[w.heap.size + 1 + 1]? = some (.cells #[.int .i64 X', .int .i64 Y', .bool false] 32 (0, 0)) from hW ▸ Lw.blk_alloc (Lw.blk_new' (by simp) _ _) _
  have B3 := Lib.hid (show W.heap[w.heap.size + 1 + 1 + 1]? = some (.cells #[.int .i64 0, .int .i64 0, .bool false] 32 (0, 0)) from hW ▸ Lw.blk_new' (by simp) _ _)
  have l0 := Lw.blk_cell B0 0; have l1 := Lw.blk_cell B0 1; have l2 := Lw.blk_cell B0 2
  have k0 := Lw.blk_cell B1 0; have k1 := Lw.blk_cell B1 1; have k2 := Lw.blk_cell B1 2
  have m0 := Lw.blk_cell B2 0; have m1 := Lw.blk_cell B2 1; have m2 := Lw.blk_cell B2 2
  simp at l0 l1 l2 k0 k1 k2 m0 m1 m2
  have hBW : Below w.heap.size w W := by rw [← hW]; exact Lw.balloc (Lw.balloc (Lw.balloc (Lw.balloc (Below.refl _ _) _) _) _) _
  have hWs3 : w.heap.size + 1 + 1 + 1 < W.heap.size := by rw [← hW]; simp
  have hWs : w.heap.size < W.heap.size := by omega
  have hWs1 : w.heap.size + 1 < W.heap.size := by omega
  have hWs2 : w.heap.size + 1 + 1 < W.heap.size := by omega
  have HW := Lib.hid hW
  clear hW B0 B1 B2

  go_enter Try.func15, Try.ntmps15
  go_wp2_with fail
  rw [HW.out]
  refine wp_region_held_drew (S := Lw.Sm W) (by kernel_rfl) (Lw.sm_drew W) (fun hHeld => ?_)
  (refine Lw.take1 (i := 0) (v := ?_) rfl (by kernel_rfl) (by kernel_rfl) (by kernel_rfl) (fun _ _ _ h => h) (Or.inl ⟨by rfl, ?_⟩) (by assumption) ?_; rotate_left 1; (focus (intro wS hSw; obtain ⟨hS1, hS2, hS3, hS4⟩ := hSw; go_simp <;> with_reducible rfl)); (try simp only [Act.put, List.setIfInBounds_toArray, List.set_cons_zero, List.set_cons_succ]))
  (refine Lw.take1 (i := 1) (v := ?_) rfl (by kernel_rfl) (by kernel_rfl) (by kernel_rfl) (fun _ _ _ h => h) (Or.inl ⟨by rfl, ?_⟩) (by assumption) ?_; rotate_left 1; (focus (intro wS hSw; obtain ⟨hS1, hS2, hS3, hS4⟩ := hSw; go_simp <;> with_reducible rfl)); (try simp only [Act.put, List.setIfInBounds_toArray, List.set_cons_zero, List.set_cons_succ]))
  (refine Lw.take1 (i := 2) (v := ?_) rfl (by kernel_rfl) (by kernel_rfl) (by kernel_rfl) (fun _ _ _ h => h) (Or.inl ⟨by rfl, ?_⟩) (by assumption) ?_; rotate_left 1; (focus (intro wS hSw; obtain ⟨hS1, hS2, hS3, hS4⟩ := hSw; go_simp <;> with_reducible rfl)); (try simp only [Act.put, List.setIfInBounds_toArray, List.set_cons_zero, List.set_cons_succ]))
  (refine wpAnyH_ready (rs := [3]) (by kernel_rfl) (by simp) ?_; refine Lw.cons1 (i := 3) rfl (fun K hK => ?_) AllReadyH.nil; go_simp; go_at_call 24; (with_reducible refine (NG.out _).mono ?_); rintro e wx ⟨rfl, hbx⟩; refine hK.out _ _ ?_ (fun hHeld => ?_); (focus exact Lw.sm_keep (Lw.sm_drew W) hbx); clear hK K; (try simp only [Act.put, List.setIfInBounds_toArray, List.set_cons_zero, List.set_cons_succ]))
  (refine Lw.take1 (i := 4) (v := ?_) rfl (by kernel_rfl) (by kernel_rfl) (by kernel_rfl) (fun _ _ _ h => h) (Or.inl ⟨by rfl, ?_⟩) (by assumption) ?_; rotate_left 1; (focus (intro wS hSw; obtain ⟨hS1, hS2, hS3, hS4⟩ := hSw; go_simp <;> with_reducible rfl)); (try simp only [Act.put, List.setIfInBounds_toArray, List.set_cons_zero, List.set_cons_succ]))
  (refine Lw.take1 (i := 5) (v := ?_) rfl (by kernel_rfl) (by kernel_rfl) (by kernel_rfl) (fun _ _ _ h => h) (Or.inl ⟨by rfl, ?_⟩) (by assumption) ?_; rotate_left 1; (focus (intro wS hSw; obtain ⟨hS1, hS2, hS3, hS4⟩ := hSw; go_simp <;> with_reducible rfl)); (try simp only [Act.put, List.setIfInBounds_toArray, List.set_cons_zero, List.set_cons_succ]))
  refine wpAnyH_done (by kernel_rfl) ?_ _
  have hS := Lw.sm_keep (Lw.sm_drew W) hbx
  have D2 := (hS.2.2.2.block (w.heap.size + 1 + 1 + 1) hWs3).trans B3.out
  have hHB := Lw.bt hBW hS.2.2.2
  have f1 := Lw.blk_free D2 0; have f2 := Lw.blk_free D2 1; have f3 := Lw.blk_free D2 2; have c1 := Lw.blk_cell D2 0; have c2 := Lw.blk_cell D2 1; have c3 := Lw.blk_cell D2 2
  simp at c1 c2 c3
  obtain ⟨r0, r1, r2⟩ := Lw.set3c (x := .int .i64 0) (y := .int .i64 0) (z := .bool true) D2
  have r0 := Lib.hid r0; have r1 := Lib.hid r1; have r2 := Lib.hid r2
  clear D2
  go_wp2_with fail
  refine bodyPost_ret (v := .agg #[.int .i64 0, .int .i64 0, .bool true]) (by simp only [results, Try.results15]; simp [go_sem, r0.out, r1.out, r2.out]) rfl ⟨by rw [E.out], Lw.bset3 hHB (by omega) _ _ _⟩
set_option maxHeartbeats 4000000 in
theorem curve_add_sum (P A B X Y X' Y' : Int) (w : World) (hc : Lw.crvR P A B) (x0 : 0 ≤ X) (x1 : X < P) (y0 : 0 ≤ Y) (y1 : Y < P) (u0 : 0 ≤ X') (u1 : X' < P) (v0 : 0 ≤ Y') (v1 : Y' < P) (hn : ¬ (X = X' ∧ Y = (-Y') % P)) :
    Calls Try.prog 15 #[.agg #[.int .i64 P, .int .i64 A, .int .i64 B], .agg #[.int .i64 X, .int .i64 Y, .bool false], .agg #[.int .i64 X', .int .i64 Y', .bool false]] w fun e w' => e = .returned (Lw.addT P A ⟨X, Y, false⟩ ⟨X', Y', false⟩).v ∧ Below w.heap.size w w' := by
  obtain ⟨p1, h2, a0, a1, b0, b1⟩ := hc
  have h1 : 0 < P := by omega
  obtain ⟨k, hk⟩ : ∃ k, Lw.slopeI P A ⟨X, Y, false⟩ ⟨X', Y', false⟩ = k := ⟨_, rfl⟩
  have kb : 0 ≤ k ∧ k < P := by rw [← hk]; unfold Lw.slopeI; split <;> exact Lw.ovI_bd h1 _ _
  obtain ⟨x, hx⟩ : ∃ x, Lw.sumX P k ⟨X, Y, false⟩ ⟨X', Y', false⟩ = x := ⟨_, rfl⟩
  obtain ⟨y, hy⟩ : ∃ y, Lw.sumY P k x ⟨X, Y, false⟩ = y := ⟨_, rfl⟩
  have xb : 0 ≤ x ∧ x < P := by rw [← hx]; exact Lw.emod_bd _ _ h1
  have E : Hid ((Lw.addT P A ⟨X, Y, false⟩ ⟨X', Y', false⟩).v = .agg #[.int .i64 x, .int .i64 y, .bool false]) := by rw [Lw.addT_sum rfl rfl hn hk, hx, hy]; exact rfl
  have NG := fun w => curve_neg P A B X' Y' false w h1 h2 (by omega) (by omega)
  obtain ⟨n, hn'⟩ : ∃ n, (-Y') % P = n := ⟨_, rfl⟩
  have NV : (Lw.negT P ⟨X', Y', false⟩).v = .agg #[.int .i64 X', .int .i64 n, .bool false] := by unfold Lw.negT; rw [← hn']; exact rfl
  rw [NV] at NG
  rw [hn'] at hn
  replace NG := Lib.hid NG
  have O1 := fun w => curve_over P A B (Y' - Y) (X' - X) w h1 h2
  have O2 := fun w => curve_over P A B (3 * X * X + A) (2 * Y) w h1 h2
  have MX := fun w => curve_mod P A B (k * k - X - X') w h1 h2
  have MY := fun w => curve_mod P A B (k * (X - x) - Y) w h1 h2
  have hx' : (k * k - X - X') % P = x := hx
  have hy' : (k * (X - x) - Y) % P = y := hy
  rw [hx'] at MX
  rw [hy'] at MY
  replace MX := Lib.hid MX
  replace MY := Lib.hid MY
  obtain ⟨s0, s1⟩ := Lw.mul_bd' X X 1009 x0 (by omega) x0 (by omega)
  obtain ⟨kk0, kk1⟩ := Lw.mul_bd' k k 1009 kb.1 (by omega) kb.1 (by omega)
  have kx : -1018081 ≤ k * (X - x) ∧ k * (X - x) ≤ 1018081 := by
    have := Lw.mul_bd' k X 1009 kb.1 (by omega) x0 (by omega)
    have := Lw.mul_bd' k x 1009 kb.1 (by omega) xb.1 (by omega)
    rw [Int.mul_sub]; omega
  obtain ⟨kx0, kx1⟩ := kx
  have e1 : IntKind.i64.wrap (3 * X * X) = 3 * X * X := by rw [IntKind.wrap_i64, Int.mul_assoc]; omega
  have e2 : IntKind.i64.wrap (3 * X * X + A) = 3 * X * X + A := by rw [IntKind.wrap_i64, Int.mul_assoc]; omega
  have e3 : IntKind.i64.wrap (k * k) = k * k := by rw [IntKind.wrap_i64]; omega
  have e4 : IntKind.i64.wrap (k * k - X) = k * k - X := by rw [IntKind.wrap_i64]; omega
  have e5 : IntKind.i64.wrap (k * k - X - X') = k * k - X - X' := by rw [IntKind.wrap_i64]; omega
  have e6 : IntKind.i64.wrap (k * (X - x)) = k * (X - x) := by rw [IntKind.wrap_i64]; omega
  have e7 : IntKind.i64.wrap (k * (X - x) - Y) = k * (X - x) - Y := by rw [IntKind.wrap_i64]; omega
  obtain ⟨kb0, kb1⟩ := kb
  obtain ⟨xb0, xb1⟩ := xb
  have hnt : ((X == X') = true ∧ (Y == n) = false) ∨ (X == X') = false := by
    by_cases hxx : X = X'
    · left; refine ⟨by simpa using hxx, ?_⟩; simpa using fun e => hn ⟨hxx, e⟩
    · right; simpa using hxx
  have hst : ((X == X') = true ∧ (Y == Y') = true ∧ k = Lw.ovI P (3 * X * X + A) (2 * Y)) ∨ (((X == X') = false ∨ (Y == Y') = false) ∧ k = Lw.ovI P (Y' - Y) (X' - X)) := by
    by_cases hxx : X = X' ∧ Y = Y'
    · left; refine ⟨by simpa using hxx.1, by simpa using hxx.2, ?_⟩; rw [← hk]; exact if_pos hxx
    · right; refine ⟨?_, ?_⟩
      · by_cases h : X = X'
        · right; simpa using fun e => hxx ⟨h, e⟩
        · left; simpa using h
      · rw [← hk]; exact if_neg hxx
  clear NV hn hx hy hx' hy' hk hn'
  obtain ⟨W, hW⟩ : ∃ W, (((w.alloc (.cells #[.int .i64 P, .int .i64 A, .int .i64 B] 44)).alloc (.cells #[.int .i64 X, .int .i64 Y, .bool false] 32)).alloc (.cells #[.int .i64 X', .int .i64 Y', .bool false] 32)).alloc (.cells #[.int .i64 0, .int .i64 0, .bool false] 32) = W := ⟨_, rfl⟩
  have B0 := show W.heap[w.heap.size]? = some (.cells #[.int .i64 P, .int .i64 A, .int .i64 B] 44 (0, 0)) from hW ▸ Lw.blk_alloc (Lw.blk_alloc (Lw.blk_alloc (Lw.blk_new _ _ _) _) _) _
  have B1 := show W.heap[w.heap.size + 1]? = some (.cells #[.int .i64 X, .int .i64 Y, .bool false] 32 (0, 0)) from hW ▸ Lw.blk_alloc (Lw.blk_alloc (Lw.blk_new' (by simp) _ _) _) _
  have B2 := show W.heap[w.heap.size + 1 + 1]? = some (.cells #[.int .i64 X', .int .i64 Y', .bool false] 32 (0, 0)) from hW ▸ Lw.blk_alloc (Lw.blk_new' (by simp) _ _) _
  have B3 := Lib.hid (show W.heap[w.heap.size + 1 + 1 + 1]? = some (.cells #[.int .i64 0, .int .i64 0, .bool false] 32 (0, 0)) from hW ▸ Lw.blk_new' (by simp) _ _)
  have l0 := Lw.blk_cell B0 0; have l1 := Lw.blk_cell B0 1; have l2 := Lw.blk_cell B0 2
  have k0 := Lw.blk_cell B1 0; have k1 := Lw.blk_cell B1 1; have k2 := Lw.blk_cell B1 2
  have m0 := Lw.blk_cell B2 0; have m1 := Lw.blk_cell B2 1; have m2 := Lw.blk_cell B2 2
  simp at l0 l1 l2 k0 k1 k2 m0 m1 m2
  have hBW : Below w.heap.size w W := by rw [← hW]; exact Lw.balloc (Lw.balloc (Lw.balloc (Lw.balloc (Below.refl _ _) _) _) _) _
  have hWs3 : w.heap.size + 1 + 1 + 1 < W.heap.size := by rw [← hW]; simp
  have hWs : w.heap.size < W.heap.size := by omega
  have hWs1 : w.heap.size + 1 < W.heap.size := by omega
  have hWs2 : w.heap.size + 1 + 1 < W.heap.size := by omega
  have HW := Lib.hid hW
  clear hW B0 B1 B2

  rcases hst with ⟨t1, t2, hk⟩ | ⟨t2, hk⟩
  · rw [← hk] at O2
    replace O2 := Lib.hid O2
    obtain ⟨kz, hkz⟩ : ∃ z, Lw.ovI P (Y' - Y) (X' - X) = z := ⟨_, rfl⟩
    rw [hkz] at O1
    replace O1 := Lib.hid O1
    have t3 : (Y == n) = false := by rcases hnt with h | h; exact h.2; rw [t1] at h; cases h
    clear hk hkz hnt
    go_enter Try.func15, Try.ntmps15
    go_wp2_with fail
    rw [HW.out]
    refine wp_region_held_drew (S := Lw.Sm W) (by kernel_rfl) (Lw.sm_drew W) (fun hHeld => ?_)
    (refine Lw.take1 (i := 0) (v := ?_) rfl (by kernel_rfl) (by kernel_rfl) (by kernel_rfl) (fun _ _ _ h => h) (Or.inl ⟨by rfl, ?_⟩) (by assumption) ?_; rotate_left 1; (focus (intro wS hSw; obtain ⟨hS1, hS2, hS3, hS4⟩ := hSw; go_simp <;> with_reducible rfl)); (try simp only [Act.put, List.setIfInBounds_toArray, List.set_cons_zero, List.set_cons_succ]))
    (refine Lw.take1 (i := 1) (v := ?_) rfl (by kernel_rfl) (by kernel_rfl) (by kernel_rfl) (fun _ _ _ h => h) (Or.inl ⟨by rfl, ?_⟩) (by assumption) ?_; rotate_left 1; (focus (intro wS hSw; obtain ⟨hS1, hS2, hS3, hS4⟩ := hSw; go_simp <;> with_reducible rfl)); (try simp only [Act.put, List.setIfInBounds_toArray, List.set_cons_zero, List.set_cons_succ]))
    (refine Lw.take1 (i := 2) (v := ?_) rfl (by kernel_rfl) (by kernel_rfl) (by kernel_rfl) (fun _ _ _ h => h) (Or.inl ⟨by rfl, ?_⟩) (by assumption) ?_; rotate_left 1; (focus (intro wS hSw; obtain ⟨hS1, hS2, hS3, hS4⟩ := hSw; go_simp <;> with_reducible rfl)); (try simp only [Act.put, List.setIfInBounds_toArray, List.set_cons_zero, List.set_cons_succ]))
    (refine wpAnyH_ready (rs := [3]) (by kernel_rfl) (by simp) ?_; refine Lw.cons1 (i := 3) rfl (fun K hK => ?_) AllReadyH.nil; go_simp; go_at_call 24; (with_reducible refine (NG.out _).mono ?_); rintro e wx ⟨rfl, hbx⟩; refine hK.out _ _ ?_ (fun hHeld => ?_); (focus exact Lw.sm_keep (Lw.sm_drew W) hbx); clear hK K; (try simp only [Act.put, List.setIfInBounds_toArray, List.set_cons_zero, List.set_cons_succ]))
    (refine Lw.take1 (i := 4) (v := ?_) rfl (by kernel_rfl) (by kernel_rfl) (by kernel_rfl) (fun _ _ _ h => h) (Or.inl ⟨by rfl, ?_⟩) (by assumption) ?_; rotate_left 1; (focus (intro wS hSw; obtain ⟨hS1, hS2, hS3, hS4⟩ := hSw; go_simp <;> with_reducible rfl)); (try simp only [Act.put, List.setIfInBounds_toArray, List.set_cons_zero, List.set_cons_succ]))
    (refine Lw.take1 (i := 5) (v := ?_) rfl (by kernel_rfl) (by kernel_rfl) (by kernel_rfl) (fun _ _ _ h => h) (Or.inl ⟨by rfl, ?_⟩) (by assumption) ?_; rotate_left 1; (focus (intro wS hSw; obtain ⟨hS1, hS2, hS3, hS4⟩ := hSw; go_simp <;> with_reducible rfl)); (try simp only [Act.put, List.setIfInBounds_toArray, List.set_cons_zero, List.set_cons_succ]))
    refine wpAnyH_done (by kernel_rfl) ?_ _
    have hS := Lw.sm_keep (Lw.sm_drew W) hbx
    (have q0 := (hS.1 ⟨w.heap.size, 0, none⟩ hWs).trans l0; have q1 := (hS.1 ⟨w.heap.size, 1, none⟩ hWs).trans l1; have q2 := (hS.1 ⟨w.heap.size, 2, none⟩ hWs).trans l2; have q3 := (hS.1 ⟨w.heap.size + 1, 0, none⟩ hWs1).trans k0; have q4 := (hS.1 ⟨w.heap.size + 1, 1, none⟩ hWs1).trans k1; have q5 := (hS.1 ⟨w.heap.size + 1, 2, none⟩ hWs1).trans k2; have q6 := (hS.1 ⟨w.heap.size + 1 + 1, 0, none⟩ hWs2).trans m0; have q7 := (hS.1 ⟨w.heap.size + 1 + 1, 1, none⟩ hWs2).trans m1; have q8 := (hS.1 ⟨w.heap.size + 1 + 1, 2, none⟩ hWs2).trans m2)
    go_wp2_with (first | (go_at_call 25; first | ((with_reducible refine (O1.out _).mono ?_); rintro e w1 ⟨rfl, hb1⟩; have hS1 := Lw.sm_keep hS hb1; (have q0 := (hS1.1 ⟨w.heap.size, 0, none⟩ hWs).trans l0; have q1 := (hS1.1 ⟨w.heap.size, 1, none⟩ hWs).trans l1; have q2 := (hS1.1 ⟨w.heap.size, 2, none⟩ hWs).trans l2; have q3 := (hS1.1 ⟨w.heap.size + 1, 0, none⟩ hWs1).trans k0; have q4 := (hS1.1 ⟨w.heap.size + 1, 1, none⟩ hWs1).trans k1; have q5 := (hS1.1 ⟨w.heap.size + 1, 2, none⟩ hWs1).trans k2; have q6 := (hS1.1 ⟨w.heap.size + 1 + 1, 0, none⟩ hWs2).trans m0; have q7 := (hS1.1 ⟨w.heap.size + 1 + 1, 1, none⟩ hWs2).trans m1; have q8 := (hS1.1 ⟨w.heap.size + 1 + 1, 2, none⟩ hWs2).trans m2)) | ((with_reducible refine (O2.out _).mono ?_); rintro e w2 ⟨rfl, hb2⟩; have hS2 := Lw.sm_keep hS1 hb2; (have q0 := (hS2.1 ⟨w.heap.size, 0, none⟩ hWs).trans l0; have q1 := (hS2.1 ⟨w.heap.size, 1, none⟩ hWs).trans l1; have q2 := (hS2.1 ⟨w.heap.size, 2, none⟩ hWs).trans l2; have q3 := (hS2.1 ⟨w.heap.size + 1, 0, none⟩ hWs1).trans k0; have q4 := (hS2.1 ⟨w.heap.size + 1, 1, none⟩ hWs1).trans k1; have q5 := (hS2.1 ⟨w.heap.size + 1, 2, none⟩ hWs1).trans k2; have q6 := (hS2.1 ⟨w.heap.size + 1 + 1, 0, none⟩ hWs2).trans m0; have q7 := (hS2.1 ⟨w.heap.size + 1 + 1, 1, none⟩ hWs2).trans m1; have q8 := (hS2.1 ⟨w.heap.size + 1 + 1, 2, none⟩ hWs2).trans m2))) | (go_at_call 26; first | ((with_reducible refine (MX.out _).mono ?_); rintro e w3 ⟨rfl, hb3⟩; have hS3 := Lw.sm_keep hS2 hb3; (have q0 := (hS3.1 ⟨w.heap.size, 0, none⟩ hWs).trans l0; have q1 := (hS3.1 ⟨w.heap.size, 1, none⟩ hWs).trans l1; have q2 := (hS3.1 ⟨w.heap.size, 2, none⟩ hWs).trans l2; have q3 := (hS3.1 ⟨w.heap.size + 1, 0, none⟩ hWs1).trans k0; have q4 := (hS3.1 ⟨w.heap.size + 1, 1, none⟩ hWs1).trans k1; have q5 := (hS3.1 ⟨w.heap.size + 1, 2, none⟩ hWs1).trans k2; have q6 := (hS3.1 ⟨w.heap.size + 1 + 1, 0, none⟩ hWs2).trans m0; have q7 := (hS3.1 ⟨w.heap.size + 1 + 1, 1, none⟩ hWs2).trans m1; have q8 := (hS3.1 ⟨w.heap.size + 1 + 1, 2, none⟩ hWs2).trans m2)) | ((with_reducible refine (MY.out _).mono ?_); rintro e w4 ⟨rfl, hb4⟩; have hS4 := Lw.sm_keep hS3 hb4; have D2 := (hS4.2.2.2.block (w.heap.size + 1 + 1 + 1) hWs3).trans B3.out; have f1 := Lw.blk_free D2 0; have f2 := Lw.blk_free D2 1; have f3 := Lw.blk_free D2 2; have c1 := Lw.blk_cell D2 0; have c2 := Lw.blk_cell D2 1; have c3 := Lw.blk_cell D2 2; simp at c1 c2 c3)))
    obtain ⟨r0, r1, r2⟩ := Lw.set3c (x := .int .i64 x) (y := .int .i64 y) (z := .bool false) D2
    refine bodyPost_ret (v := .agg #[.int .i64 x, .int .i64 y, .bool false]) (by simp only [results, Try.results15]; simp [go_sem, r0, r1, r2]) rfl ⟨by rw [E.out], Lw.bset3 (Lw.bt hBW hS4.2.2.2) (by omega) _ _ _⟩
  · rw [← hk] at O1
    replace O1 := Lib.hid O1
    clear hk O2
    have hall : ((X == X') = true ∧ (Y == n) = false ∧ (Y == Y') = false) ∨ (X == X') = false := by
      rcases hnt with ⟨h, h'⟩ | h
      · rcases t2 with h3 | h3
        · rw [h] at h3; cases h3
        · exact .inl ⟨h, h', h3⟩
      · exact .inr h
    clear hnt t2
    rcases hall with ⟨t1, t3, t2⟩ | t1
    all_goals
      go_enter Try.func15, Try.ntmps15
      go_wp2_with fail
      rw [HW.out]
      refine wp_region_held_drew (S := Lw.Sm W) (by kernel_rfl) (Lw.sm_drew W) (fun hHeld => ?_)
      (refine Lw.take1 (i := 0) (v := ?_) rfl (by kernel_rfl) (by kernel_rfl) (by kernel_rfl) (fun _ _ _ h => h) (Or.inl ⟨by rfl, ?_⟩) (by assumption) ?_; rotate_left 1; (focus (intro wS hSw; obtain ⟨hS1, hS2, hS3, hS4⟩ := hSw; go_simp <;> with_reducible rfl)); (try simp only [Act.put, List.setIfInBounds_toArray, List.set_cons_zero, List.set_cons_succ]))
      (refine Lw.take1 (i := 1) (v := ?_) rfl (by kernel_rfl) (by kernel_rfl) (by kernel_rfl) (fun _ _ _ h => h) (Or.inl ⟨by rfl, ?_⟩) (by assumption) ?_; rotate_left 1; (focus (intro wS hSw; obtain ⟨hS1, hS2, hS3, hS4⟩ := hSw; go_simp <;> with_reducible rfl)); (try simp only [Act.put, List.setIfInBounds_toArray, List.set_cons_zero, List.set_cons_succ]))
      (refine Lw.take1 (i := 2) (v := ?_) rfl (by kernel_rfl) (by kernel_rfl) (by kernel_rfl) (fun _ _ _ h => h) (Or.inl ⟨by rfl, ?_⟩) (by assumption) ?_; rotate_left 1; (focus (intro wS hSw; obtain ⟨hS1, hS2, hS3, hS4⟩ := hSw; go_simp <;> with_reducible rfl)); (try simp only [Act.put, List.setIfInBounds_toArray, List.set_cons_zero, List.set_cons_succ]))
      (refine wpAnyH_ready (rs := [3]) (by kernel_rfl) (by simp) ?_; refine Lw.cons1 (i := 3) rfl (fun K hK => ?_) AllReadyH.nil; go_simp; go_at_call 24; (with_reducible refine (NG.out _).mono ?_); rintro e wx ⟨rfl, hbx⟩; refine hK.out _ _ ?_ (fun hHeld => ?_); (focus exact Lw.sm_keep (Lw.sm_drew W) hbx); clear hK K; (try simp only [Act.put, List.setIfInBounds_toArray, List.set_cons_zero, List.set_cons_succ]))
      (refine Lw.take1 (i := 4) (v := ?_) rfl (by kernel_rfl) (by kernel_rfl) (by kernel_rfl) (fun _ _ _ h => h) (Or.inl ⟨by rfl, ?_⟩) (by assumption) ?_; rotate_left 1; (focus (intro wS hSw; obtain ⟨hS1, hS2, hS3, hS4⟩ := hSw; go_simp <;> with_reducible rfl)); (try simp only [Act.put, List.setIfInBounds_toArray, List.set_cons_zero, List.set_cons_succ]))
      (refine Lw.take1 (i := 5) (v := ?_) rfl (by kernel_rfl) (by kernel_rfl) (by kernel_rfl) (fun _ _ _ h => h) (Or.inl ⟨by rfl, ?_⟩) (by assumption) ?_; rotate_left 1; (focus (intro wS hSw; obtain ⟨hS1, hS2, hS3, hS4⟩ := hSw; go_simp <;> with_reducible rfl)); (try simp only [Act.put, List.setIfInBounds_toArray, List.set_cons_zero, List.set_cons_succ]))
      refine wpAnyH_done (by kernel_rfl) ?_ _
      have hS := Lw.sm_keep (Lw.sm_drew W) hbx
      (have q0 := (hS.1 ⟨w.heap.size, 0, none⟩ hWs).trans l0; have q1 := (hS.1 ⟨w.heap.size, 1, none⟩ hWs).trans l1; have q2 := (hS.1 ⟨w.heap.size, 2, none⟩ hWs).trans l2; have q3 := (hS.1 ⟨w.heap.size + 1, 0, none⟩ hWs1).trans k0; have q4 := (hS.1 ⟨w.heap.size + 1, 1, none⟩ hWs1).trans k1; have q5 := (hS.1 ⟨w.heap.size + 1, 2, none⟩ hWs1).trans k2; have q6 := (hS.1 ⟨w.heap.size + 1 + 1, 0, none⟩ hWs2).trans m0; have q7 := (hS.1 ⟨w.heap.size + 1 + 1, 1, none⟩ hWs2).trans m1; have q8 := (hS.1 ⟨w.heap.size + 1 + 1, 2, none⟩ hWs2).trans m2)
      go_wp2_with (first | (go_at_call 25; ((with_reducible refine (O1.out _).mono ?_); rintro e w1 ⟨rfl, hb1⟩; have hS1 := Lw.sm_keep hS hb1; (have q0 := (hS1.1 ⟨w.heap.size, 0, none⟩ hWs).trans l0; have q1 := (hS1.1 ⟨w.heap.size, 1, none⟩ hWs).trans l1; have q2 := (hS1.1 ⟨w.heap.size, 2, none⟩ hWs).trans l2; have q3 := (hS1.1 ⟨w.heap.size + 1, 0, none⟩ hWs1).trans k0; have q4 := (hS1.1 ⟨w.heap.size + 1, 1, none⟩ hWs1).trans k1; have q5 := (hS1.1 ⟨w.heap.size + 1, 2, none⟩ hWs1).trans k2; have q6 := (hS1.1 ⟨w.heap.size + 1 + 1, 0, none⟩ hWs2).trans m0; have q7 := (hS1.1 ⟨w.heap.size + 1 + 1, 1, none⟩ hWs2).trans m1; have q8 := (hS1.1 ⟨w.heap.size + 1 + 1, 2, none⟩ hWs2).trans m2))) | (go_at_call 26; first | ((with_reducible refine (MX.out _).mono ?_); rintro e w3 ⟨rfl, hb3⟩; have hS3 := Lw.sm_keep hS1 hb3; (have q0 := (hS3.1 ⟨w.heap.size, 0, none⟩ hWs).trans l0; have q1 := (hS3.1 ⟨w.heap.size, 1, none⟩ hWs).trans l1; have q2 := (hS3.1 ⟨w.heap.size, 2, none⟩ hWs).trans l2; have q3 := (hS3.1 ⟨w.heap.size + 1, 0, none⟩ hWs1).trans k0; have q4 := (hS3.1 ⟨w.heap.size + 1, 1, none⟩ hWs1).trans k1; have q5 := (hS3.1 ⟨w.heap.size + 1, 2, none⟩ hWs1).trans k2; have q6 := (hS3.1 ⟨w.heap.size + 1 + 1, 0, none⟩ hWs2).trans m0; have q7 := (hS3.1 ⟨w.heap.size + 1 + 1, 1, none⟩ hWs2).trans m1; have q8 := (hS3.1 ⟨w.heap.size + 1 + 1, 2, none⟩ hWs2).trans m2)) | ((with_reducible refine (MY.out _).mono ?_); rintro e w4 ⟨rfl, hb4⟩; have hS4 := Lw.sm_keep hS3 hb4; have D2 := (hS4.2.2.2.block (w.heap.size + 1 + 1 + 1) hWs3).trans B3.out; have f1 := Lw.blk_free D2 0; have f2 := Lw.blk_free D2 1; have f3 := Lw.blk_free D2 2; have c1 := Lw.blk_cell D2 0; have c2 := Lw.blk_cell D2 1; have c3 := Lw.blk_cell D2 2; simp at c1 c2 c3)))
      obtain ⟨r0, r1, r2⟩ := Lw.set3c (x := .int .i64 x) (y := .int .i64 y) (z := .bool false) D2
      refine bodyPost_ret (v := .agg #[.int .i64 x, .int .i64 y, .bool false]) (by simp only [results, Try.results15]; simp [go_sem, r0, r1, r2]) rfl ⟨by rw [E.out], Lw.bset3 (Lw.bt hBW hS4.2.2.2) (by omega) _ _ _⟩
theorem curve_add (P A B X Y X' Y' : Int) (F F' : Bool) (w : World) (hc : Lw.crvR P A B) (hs : Lw.spotB P A B X Y F = true) (ht : Lw.spotB P A B X' Y' F' = true) :
    Calls Try.prog 15 #[.agg #[.int .i64 P, .int .i64 A, .int .i64 B], .agg #[.int .i64 X, .int .i64 Y, .bool F], .agg #[.int .i64 X', .int .i64 Y', .bool F']] w fun e w' => e = .returned (Lw.addT P A ⟨X, Y, F⟩ ⟨X', Y', F'⟩).v ∧ Below w.heap.size w w' := by
  cases F with
  | true => exact curve_add_far P A B X Y X' Y' _ _ w (.inl rfl)
  | false =>
    cases F' with
    | true => exact curve_add_far P A B X Y X' Y' _ _ w (.inr rfl)
    | false =>
      obtain ⟨⟨x0, x1, y0, y1⟩, _⟩ := Lw.spot_in hs
      obtain ⟨⟨u0, u1, v0, v1⟩, _⟩ := Lw.spot_in ht
      by_cases hn : X = X' ∧ Y = (-Y') % P
      · exact curve_add_neg P A B X Y X' Y' w (by have := hc.1; omega) hc.2.1 v0 (by have := hc.2.1; omega) hn.1 hn.2
      · exact curve_add_sum P A B X Y X' Y' w hc x0 x1 y0 y1 u0 u1 v0 v1 hn
end Go.Proofs.Ytafefengppiobaa
namespace Lw
theorem quietE {P : Go.Program} {f : Go.FuncId} {args : Array Go.Value} {w : Go.World} {d n : Nat} {v : Go.Value} (h : Go.Calls P f args (w.drewN (d + n)) fun e w' => e = .returned v ∧ w.drewN (d + n) = w') : Go.Calls P f args (w.drewN (d + n)) fun e w'' => e = .returned v ∧ ∃ m, w'' = w.drewN (d + m) :=
  h.mono fun _ _ ⟨he, hm⟩ => ⟨he, n, hm.symm⟩
theorem neg_iff {P A B : Int} {s t : SpotT} (hP : 0 < P) (hs : s.F = false) (ht : t.F = false) (h1 : inP P s.X s.Y) (h2 : inP P t.X t.Y) : (s.X = t.X ∧ s.Y = (-t.Y) % P) ↔ (t.X = s.X ∧ t.Y = (-s.Y) % P) := by
  have key : ∀ y z : Int, 0 ≤ y → y < P → 0 ≤ z → z < P → y = (-z) % P → z = (-y) % P := by
    intro y z y0 y1 z0 z1 e
    by_cases hz : z = 0
    · subst hz
      have : y = 0 := by rw [e]; simp
      subst this; simp
    · have e1 : (-z) % P = P - z := by
        rw [← Int.add_mul_emod_self_left (-z) P 1, Int.mul_one]
        exact (Int.emod_eq_of_lt (by omega) (by omega)).trans (by omega)
      have e2 : (-y) % P = P - y := by
        rw [← Int.add_mul_emod_self_left (-y) P 1, Int.mul_one]
        exact (Int.emod_eq_of_lt (by omega) (by omega)).trans (by omega)
      rw [e2]; omega
  obtain ⟨a1, a2, a3, a4⟩ := h1
  obtain ⟨b1, b2, b3, b4⟩ := h2
  exact ⟨fun ⟨h, h'⟩ => ⟨h.symm, key _ _ a3 a4 b3 b4 h'⟩, fun ⟨h, h'⟩ => ⟨h.symm, key _ _ b3 b4 a3 a4 h'⟩⟩
/-- the slope can be reckoned -/
theorem slope_ok {P A B : Int} {s t : SpotT} (hp : primeB P = true) (h5 : 5 ≤ P) (hs : s.F = false) (ht : t.F = false) (h1 : inP P s.X s.Y) (h2 : inP P t.X t.Y) (e1 : s.Y * s.Y % P = rhs P A B s.X) (e2 : t.Y * t.Y % P = rhs P A B t.X) (hn : ¬ (s.X = t.X ∧ s.Y = (-t.Y) % P)) :
    (s.X = t.X ∧ s.Y = t.Y ∧ ¬ (2 * s.Y) % P = 0) ∨ (¬ (s.X = t.X ∧ s.Y = t.Y) ∧ ¬ (t.X - s.X) % P = 0) := by
  obtain ⟨a1, a2, a3, a4⟩ := h1
  obtain ⟨b1, b2, b3, b4⟩ := h2
  have small : ∀ z : Int, -P < z → z < P → z % P = 0 → z = 0 := by
    intro z z0 z1 hz
    obtain ⟨k, hk⟩ := Int.dvd_of_emod_eq_zero hz
    rcases Int.lt_trichotomy k 0 with h | h | h
    · have : P * k ≤ P * (-1) := Int.mul_le_mul_of_nonneg_left (by omega) (by omega); omega
    · subst h; omega
    · have : P * 1 ≤ P * k := Int.mul_le_mul_of_nonneg_left (by omega) (by omega); omega
  by_cases hx : s.X = t.X
  · have e : ((s.Y - t.Y) * (s.Y + t.Y)) % P = 0 := by
      have : s.Y * s.Y % P = t.Y * t.Y % P := by rw [e1, e2, hx]
      obtain ⟨k, hk⟩ := emod_zero_of this
      have : (s.Y - t.Y) * (s.Y + t.Y) = 0 + P * k := by grind
      rw [this, Int.add_mul_emod_self_left]; rfl
    rcases prime_dvd_mul hp e with h | h
    · have hy : s.Y = t.Y := by have := small _ (by omega) (by omega) h; omega
      left
      refine ⟨hx, hy, fun h2 => hn ⟨hx, ?_⟩⟩
      rcases prime_dvd_mul hp h2 with h3 | h3
      · have := small 2 (by omega) (by omega) h3; omega
      · have := small _ (by omega) (by omega) h3
        rw [← hy, this]; simp
    · exfalso
      refine hn ⟨hx, ?_⟩
      have : s.Y = -t.Y + P * ((s.Y + t.Y) / P) := by have := Int.emod_add_mul_ediv (s.Y + t.Y) P; omega
      have e3 := emod_eq_of _ this
      rw [← e3, Int.emod_eq_of_lt a3 a4]
  · right
    refine ⟨fun h => hx h.1, fun h => hx ?_⟩
    have := small _ (by omega) (by omega) h; omega
end Lw
set_option linter.unusedVariables false
set_option linter.unusedSimpArgs false
namespace Go.Proofs.Ytafefengppiobaa
open Go.RowKit
set_option maxHeartbeats 2000000 in
theorem ref_over (P A B a b : Int) (w : World) (hp : Lw.primeB P = true) (h1 : 1 ≤ P) (h2 : P ≤ 1009) (hb : ¬ b % P = 0) (a0 : -4194304 ≤ a) (a1 : a ≤ 4194304) :
    Calls Try.prog 31 #[.agg #[.int .i64 P, .int .i64 A, .int .i64 B], .int .i64 a, .int .i64 b] w fun e w' => e = .returned (.int .i64 (Lw.ovI P a b)) ∧ Below w.heap.size w w' := by
  obtain ⟨o0, o1⟩ := Lw.ovI_bd (by omega : 0 < P) a b
  have OK := Lw.ovI_ok (a := a) hp h1 (by omega) hb
  have UQ := Lib.hid (fun (j : Int) (j0 : 0 ≤ j) (j1 : j < P) (h : (j * (b % P) - a) % P = 0) => Lw.ov_unique hp hb o0 o1 j0 j1 OK h)
  replace OK := Lib.hid OK
  obtain ⟨K, hK⟩ := Int.eq_ofNat_of_zero_le o0
  rw [hK] at UQ OK o1
  rw [hK]
  have b0 := Int.emod_nonneg b (by omega : P ≠ 0)
  have b1 := Int.emod_lt_of_pos b (by omega : 0 < P)
  have M1 := Lib.hid (fun w => ref_Mod b P w (by omega) (by omega))
  have M2 := Lib.hid (fun a w => ref_Mod a P w (by omega) (by omega))
  obtain ⟨c, hc⟩ : ∃ c, b % P = c := ⟨_, rfl⟩
  rw [hc] at b0 b1 M1 UQ OK
  clear hb hp hK hc
  obtain ⟨W, hW⟩ : ∃ W, w.alloc (.cells #[.int .i64 P, .int .i64 A, .int .i64 B] 30) = W := ⟨_, rfl⟩
  have B0 := show W.heap[w.heap.size]? = some (.cells #[.int .i64 P, .int .i64 A, .int .i64 B] 30 (0, 0)) from hW ▸ Lw.blk_new _ _ _
  have l0 := Lw.blk_cell B0 0
  simp at l0
  have hBW : Below w.heap.size w W := by rw [← hW]; exact Lw.balloc (Below.refl _ _) _
  have HW := Lib.hid hW
  clear hW B0
  go_enter Try.func31, Try.ntmps31
  go_wp2
  rw [HW.out]
  go_loopw [7] (fun i wr => ∃ k : Nat, k ≤ K ∧ i = .int .i64 (k : Int) ∧ ∃ d, wr = W.drewN d) (fun i _ => K - (intOf i).toNat)
  case atStart => exact ⟨0, by omega, rfl, 0, rfl⟩
  case round =>
    obtain ⟨k, k1, rfl, d, rfl⟩ := hrel
    obtain ⟨m0, m1⟩ := Lw.mul_bd' (k : Int) c 1009 (by omega) (by omega) b0 (by omega)
    have e1 : IntKind.i64.wrap ((k : Int) * c) = k * c := by rw [IntKind.wrap_i64]; omega
    have e2 : IntKind.i64.wrap ((k : Int) * c - a) = k * c - a := by rw [IntKind.wrap_i64]; omega
    by_cases hk : k = K
    · subst hk
      have M3 := fun w => M2.out ((k : Int) * c - a) w
      rw [OK.out] at M3
      replace M3 := Lib.hid M3
      have hkP : (k : Int) < P := by omega
      go_wp2
      go_quiet ((go_at_call 28; first | with_reducible exact Lw.quietE (M1.out _) | with_reducible exact Lw.quietE (M3.out _)))
      go_wp2
      go_ret
      exact ⟨rfl, Lw.bdrewN (Lw.bdrewN hBW _) _⟩
    · have M3 := fun w => M2.out ((k : Int) * c - a) w
      have ne : ((((k : Int) * c - a) % P) == 0) = false := by
        simpa using fun h => hk (by have := UQ.out k (by omega) (by omega) h; omega)
      obtain ⟨r, hr⟩ : ∃ r, ((k : Int) * c - a) % P = r := ⟨_, rfl⟩
      rw [hr] at M3 ne
      replace M3 := Lib.hid M3
      have hkP : (k : Int) < P := by omega
      clear hr
      go_wp2
      go_quiet ((go_at_call 28; first | with_reducible exact Lw.quietE (M1.out _) | with_reducible exact Lw.quietE (M3.out _)))
      go_wp2
      go_roundw
      case rel => exact ⟨k + 1, by omega, by go_num, _, rfl⟩
      case measure => simp [intOf]; omega
set_option maxHeartbeats 2000000 in
theorem ref_SpotAdd_far (P A B X Y X' Y' : Int) (F F' : Bool) (w : World) (h : F = true ∨ F' = true) :
    Calls Try.prog 18 #[.agg #[.int .i64 P, .int .i64 A, .int .i64 B], .agg #[.int .i64 X, .int .i64 Y, .bool F], .agg #[.int .i64 X', .int .i64 Y', .bool F']] w fun e w' => e = .returned (Lw.addT P A ⟨X, Y, F⟩ ⟨X', Y', F'⟩).v ∧ Below w.heap.size w w' := by
  cases F with
  | true =>
    have E : Hid ((Lw.addT P A ⟨X, Y, true⟩ ⟨X', Y', F'⟩).v = .agg #[.int .i64 X', .int .i64 Y', .bool F']) := by rw [Lw.addT_far1 rfl]; exact rfl
    clear h
    go_enter Try.func18, Try.ntmps18
    go_wp2_with fail
    refine bodyPost_ret (v := .agg #[.int .i64 X', .int .i64 Y', .bool F']) (by simp only [results, Try.results18]; simp [go_sem]) rfl ⟨by rw [E.out], by (repeat (first | exact Below.refl _ _ | refine Lw.bt ?_ (by assumption) | refine Lw.balloc ?_ _ | refine Lw.bdrewN ?_ _ | refine Below.drew ?_ | refine Lw.bset ?_ (by first | (simp; done) | (simp; omega) | omega) _))⟩
  | false =>
    have h' : F' = true := by simpa using h
    subst h'
    have E : Hid ((Lw.addT P A ⟨X, Y, false⟩ ⟨X', Y', true⟩).v = .agg #[.int .i64 X, .int .i64 Y, .bool false]) := by rw [Lw.addT_far2 rfl rfl]; exact rfl
    clear h
    go_enter Try.func18, Try.ntmps18
    go_wp2_with fail
    refine bodyPost_ret (v := .agg #[.int .i64 X, .int .i64 Y, .bool false]) (by simp only [results, Try.results18]; simp [go_sem]) rfl ⟨by rw [E.out], by (repeat (first | exact Below.refl _ _ | refine Lw.bt ?_ (by assumption) | refine Lw.balloc ?_ _ | refine Lw.bdrewN ?_ _ | refine Below.drew ?_ | refine Lw.bset ?_ (by first | (simp; done) | (simp; omega) | omega) _))⟩
set_option maxHeartbeats 2000000 in
theorem ref_SpotAdd_neg (P A B X Y X' Y' : Int) (w : World) (hc : Lw.crvR P A B) (hs : Lw.spotB P A B X Y false = true) (ht : Lw.spotB P A B X' Y' false = true) (hn : X = X' ∧ Y = (-Y') % P) :
    Calls Try.prog 18 #[.agg #[.int .i64 P, .int .i64 A, .int .i64 B], .agg #[.int .i64 X, .int .i64 Y, .bool false], .agg #[.int .i64 X', .int .i64 Y', .bool false]] w fun e w' => e = .returned (Lw.addT P A ⟨X, Y, false⟩ ⟨X', Y', false⟩).v ∧ Below w.heap.size w w' := by
  have E : Hid ((Lw.addT P A ⟨X, Y, false⟩ ⟨X', Y', false⟩).v = .agg #[.int .i64 0, .int .i64 0, .bool true]) := by rw [Lw.addT_neg rfl rfl hn]; exact rfl
  have hm := (Lw.neg_iff (P := P) (A := A) (B := B) (s := ⟨X, Y, false⟩) (t := ⟨X', Y', false⟩) (by have := hc.1; omega) rfl rfl (Lw.spot_in hs).1 (Lw.spot_in ht).1).1 hn
  simp only at hm
  have NG := fun w => ref_SpotNeg P A B X Y false w hc hs
  have NV : (Lw.negT P ⟨X, Y, false⟩).v = .agg #[.int .i64 X, .int .i64 Y', .bool false] := by unfold Lw.negT; rw [hm.2]; exact rfl
  rw [NV] at NG
  replace NG := Lib.hid NG
  have t1 : (X' == X) = true := by simpa using hm.1
  clear NV hm hn hs ht hc
  obtain ⟨W, hW⟩ : ∃ W, (((w.alloc (.cells #[.int .i64 P, .int .i64 A, .int .i64 B] 30)).alloc (.cells #[.int .i64 X, .int .i64 Y, .bool false] 32)).alloc (.cells #[.int .i64 X', .int .i64 Y', .bool false] 32)).alloc (.cells #[.int .i64 0, .int .i64 0, .bool false] 32) = W := ⟨_, rfl⟩
  have B0 := show W.heap[w.heap.size]? = some (.cells #[.int .i64 P, .int .i64 A, .int .i64 B] 30 (0, 0)) from hW ▸ Lw.blk_alloc (Lw.blk_alloc (Lw.blk_alloc (Lw.blk_new _ _ _) _) _) _
  have B1 := show W.heap[w.heap.size + 1]? = some (.cells #[.int .i64 X, .int .i64 Y, .bool false] 32 (0, 0)) from hW ▸ Lw.blk_alloc (Lw.blk_alloc (Lw.blk_new' (by simp) _ _) _) _
  have B2 := show W.heap[w.heap.size + 1 + 1]? = some (.cells #[.int .i64 X', .int .i64 Y', .bool false] 32 (0, 0)) from hW ▸ Lw.blk_alloc (Lw.blk_new' (by simp) _ _) _
  have B3 := Lib.hid (show W.heap[w.heap.size + 1 + 1 + 1]? = some (.cells #[.int .i64 0, .int .i64 0, .bool false] 32 (0, 0)) from hW ▸ Lw.blk_new' (by simp) _ _)
  have l0 := Lw.blk_cell B0 0; have l1 := Lw.blk_cell B0 1; have l2 := Lw.blk_cell B0 2
  have k0 := Lw.blk_cell B1 0; have k1 := Lw.blk_cell B1 1; have k2 := Lw.blk_cell B1 2
  have m0 := Lw.blk_cell B2 0; have m1 := Lw.blk_cell B2 1; have m2 := Lw.blk_cell B2 2
  simp at l0 l1 l2 k0 k1 k2 m0 m1 m2
  have hBW : Below w.heap.size w W := by rw [← hW]; exact Lw.balloc (Lw.balloc (Lw.balloc (Lw.balloc (Below.refl _ _) _) _) _) _
  have hWs3 : w.heap.size + 1 + 1 + 1 < W.heap.size := by rw [← hW]; simp
  have hWs : w.heap.size < W.heap.size := by omega
  have hWs1 : w.heap.size + 1 < W.heap.size := by omega
  have hWs2 : w.heap.size + 1 + 1 < W.heap.size := by omega
  have HW := Lib.hid hW
  clear hW B0 B1 B2

  go_enter Try.func18, Try.ntmps18
  go_wp2_with fail
  rw [HW.out]
  refine wp_region_held_drew (S := Lw.Sm W) (by kernel_rfl) (Lw.sm_drew W) (fun hHeld => ?_)
  (refine Lw.take1 (i := 0) (v := ?_) rfl (by kernel_rfl) (by kernel_rfl) (by kernel_rfl) (fun _ _ _ h => h) (Or.inl ⟨by rfl, ?_⟩) (by assumption) ?_; rotate_left 1; (focus (intro wS hSw; obtain ⟨hS1, hS2, hS3, hS4⟩ := hSw; go_simp <;> with_reducible rfl)); (try simp only [Act.put, List.setIfInBounds_toArray, List.set_cons_zero, List.set_cons_succ]))
  (refine Lw.take1 (i := 1) (v := ?_) rfl (by kernel_rfl) (by kernel_rfl) (by kernel_rfl) (fun _ _ _ h => h) (Or.inl ⟨by rfl, ?_⟩) (by assumption) ?_; rotate_left 1; (focus (intro wS hSw; obtain ⟨hS1, hS2, hS3, hS4⟩ := hSw; go_simp <;> with_reducible rfl)); (try simp only [Act.put, List.setIfInBounds_toArray, List.set_cons_zero, List.set_cons_succ]))
  (refine Lw.take1 (i := 2) (v := ?_) rfl (by kernel_rfl) (by kernel_rfl) (by kernel_rfl) (fun _ _ _ h => h) (Or.inl ⟨by rfl, ?_⟩) (by assumption) ?_; rotate_left 1; (focus (intro wS hSw; obtain ⟨hS1, hS2, hS3, hS4⟩ := hSw; go_simp <;> with_reducible rfl)); (try simp only [Act.put, List.setIfInBounds_toArray, List.set_cons_zero, List.set_cons_succ]))
  (refine wpAnyH_ready (rs := [3]) (by kernel_rfl) (by simp) ?_; refine Lw.cons1 (i := 3) rfl (fun K hK => ?_) AllReadyH.nil; go_simp; go_at_call 30; (with_reducible refine (NG.out _).mono ?_); rintro e wx ⟨rfl, hbx⟩; refine hK.out _ _ ?_ (fun hHeld => ?_); (focus exact Lw.sm_keep (Lw.sm_drew W) hbx); clear hK K; (try simp only [Act.put, List.setIfInBounds_toArray, List.set_cons_zero, List.set_cons_succ]))
  (refine Lw.take1 (i := 4) (v := ?_) rfl (by kernel_rfl) (by kernel_rfl) (by kernel_rfl) (fun _ _ _ h => h) (Or.inl ⟨by rfl, ?_⟩) (by assumption) ?_; rotate_left 1; (focus (intro wS hSw; obtain ⟨hS1, hS2, hS3, hS4⟩ := hSw; go_simp <;> with_reducible rfl)); (try simp only [Act.put, List.setIfInBounds_toArray, List.set_cons_zero, List.set_cons_succ]))
  refine wpAnyH_done (by kernel_rfl) ?_ _
  have hS := Lw.sm_keep (Lw.sm_drew W) hbx
  have D2 := (hS.2.2.2.block (w.heap.size + 1 + 1 + 1) hWs3).trans B3.out
  have hHB := Lw.bt hBW hS.2.2.2
  have f1 := Lw.blk_free D2 0; have f2 := Lw.blk_free D2 1; have f3 := Lw.blk_free D2 2; have c1 := Lw.blk_cell D2 0; have c2 := Lw.blk_cell D2 1; have c3 := Lw.blk_cell D2 2
  simp at c1 c2 c3
  obtain ⟨r0, r1, r2⟩ := Lw.set3c (x := .int .i64 0) (y := .int .i64 0) (z := .bool true) D2
  have r0 := Lib.hid r0; have r1 := Lib.hid r1; have r2 := Lib.hid r2
  clear D2
  go_wp2_with fail
  refine bodyPost_ret (v := .agg #[.int .i64 0, .int .i64 0, .bool true]) (by simp only [results, Try.results18]; simp [go_sem, r0.out, r1.out, r2.out]) rfl ⟨by rw [E.out], Lw.bset3 hHB (by omega) _ _ _⟩
set_option maxHeartbeats 4000000 in
theorem ref_SpotAdd_sum (P A B X Y X' Y' : Int) (w : World) (hc : Lw.crvR P A B) (hp : Lw.primeB P = true) (hs : Lw.spotB P A B X Y false = true) (ht : Lw.spotB P A B X' Y' false = true) (hn : ¬ (X = X' ∧ Y = (-Y') % P)) :
    Calls Try.prog 18 #[.agg #[.int .i64 P, .int .i64 A, .int .i64 B], .agg #[.int .i64 X, .int .i64 Y, .bool false], .agg #[.int .i64 X', .int .i64 Y', .bool false]] w fun e w' => e = .returned (Lw.addT P A ⟨X, Y, false⟩ ⟨X', Y', false⟩).v ∧ Below w.heap.size w w' := by
  obtain ⟨hs1, hs2⟩ := Lw.spot_in hs
  obtain ⟨ht1, ht2⟩ := Lw.spot_in ht
  have hm := fun h => hn ((Lw.neg_iff (P := P) (A := A) (B := B) (s := ⟨X, Y, false⟩) (t := ⟨X', Y', false⟩) (by have := hc.1; omega) rfl rfl hs1 ht1).2 h)
  have hsl := Lw.slope_ok (A := A) (B := B) (s := ⟨X, Y, false⟩) (t := ⟨X', Y', false⟩) hp hc.1 rfl rfl hs1 ht1 hs2 ht2 hn
  simp only at hm hsl
  have NG := fun w => ref_SpotNeg P A B X Y false w hc hs
  obtain ⟨x0, x1, y0, y1⟩ := hs1
  obtain ⟨u0, u1, v0, v1⟩ := ht1
  obtain ⟨p1, h2, a0, a1, b0, b1⟩ := hc
  have h1 : 0 < P := by omega
  obtain ⟨k, hk⟩ : ∃ k, Lw.slopeI P A ⟨X, Y, false⟩ ⟨X', Y', false⟩ = k := ⟨_, rfl⟩
  have kb : 0 ≤ k ∧ k < P := by rw [← hk]; unfold Lw.slopeI; split <;> exact Lw.ovI_bd h1 _ _
  obtain ⟨x, hx⟩ : ∃ x, Lw.sumX P k ⟨X, Y, false⟩ ⟨X', Y', false⟩ = x := ⟨_, rfl⟩
  obtain ⟨y, hy⟩ : ∃ y, Lw.sumY P k x ⟨X, Y, false⟩ = y := ⟨_, rfl⟩
  have xb : 0 ≤ x ∧ x < P := by rw [← hx]; exact Lw.emod_bd _ _ h1
  have E : Hid ((Lw.addT P A ⟨X, Y, false⟩ ⟨X', Y', false⟩).v = .agg #[.int .i64 x, .int .i64 y, .bool false]) := by rw [Lw.addT_sum rfl rfl hn hk, hx, hy]; exact rfl
  obtain ⟨n, hn'⟩ : ∃ n, (-Y) % P = n := ⟨_, rfl⟩
  have NV : (Lw.negT P ⟨X, Y, false⟩).v = .agg #[.int .i64 X, .int .i64 n, .bool false] := by unfold Lw.negT; rw [← hn']; exact rfl
  rw [NV] at NG
  rw [hn'] at hm
  replace NG := Lib.hid NG
  have MX := fun w => ref_Mod (k * k - X - X') P w h1 (by omega)
  have MY := fun w => ref_Mod (k * (X - x) - Y) P w h1 (by omega)
  have hx' : (k * k - X - X') % P = x := hx
  have hy' : (k * (X - x) - Y) % P = y := hy
  rw [hx'] at MX
  rw [hy'] at MY
  replace MX := Lib.hid MX
  replace MY := Lib.hid MY
  obtain ⟨s0, s1⟩ := Lw.mul_bd' X X 1009 x0 (by omega) x0 (by omega)
  obtain ⟨kk0, kk1⟩ := Lw.mul_bd' k k 1009 kb.1 (by omega) kb.1 (by omega)
  have kx : -1018081 ≤ k * (X - x) ∧ k * (X - x) ≤ 1018081 := by
    have := Lw.mul_bd' k X 1009 kb.1 (by omega) x0 (by omega)
    have := Lw.mul_bd' k x 1009 kb.1 (by omega) xb.1 (by omega)
    rw [Int.mul_sub]; omega
  obtain ⟨kx0, kx1⟩ := kx
  have sb : 0 ≤ 3 * X * X + A ∧ 3 * X * X + A ≤ 4194304 := by rw [Int.mul_assoc]; omega
  have e1 : IntKind.i64.wrap (3 * X * X) = 3 * X * X := by rw [IntKind.wrap_i64, Int.mul_assoc]; omega
  have e2 : IntKind.i64.wrap (3 * X * X + A) = 3 * X * X + A := by rw [IntKind.wrap_i64, Int.mul_assoc]; omega
  have e3 : IntKind.i64.wrap (k * k) = k * k := by rw [IntKind.wrap_i64]; omega
  have e4 : IntKind.i64.wrap (k * k - X) = k * k - X := by rw [IntKind.wrap_i64]; omega
  have e5 : IntKind.i64.wrap (k * k - X - X') = k * k - X - X' := by rw [IntKind.wrap_i64]; omega
  have e6 : IntKind.i64.wrap (k * (X - x)) = k * (X - x) := by rw [IntKind.wrap_i64]; omega
  have e7 : IntKind.i64.wrap (k * (X - x) - Y) = k * (X - x) - Y := by rw [IntKind.wrap_i64]; omega
  obtain ⟨kb0, kb1⟩ := kb
  obtain ⟨xb0, xb1⟩ := xb
  have hall : ((X == X') = true ∧ (X' == X) = true ∧ (Y' == n) = false ∧ (Y == Y') = true ∧ k = Lw.ovI P (3 * X * X + A) (2 * Y) ∧ ¬ (2 * Y) % P = 0) ∨ (((X == X') = true ∧ (X' == X) = true ∧ (Y' == n) = false ∧ (Y == Y') = false ∨ (X == X') = false ∧ (X' == X) = false) ∧ k = Lw.ovI P (Y' - Y) (X' - X) ∧ ¬ (X' - X) % P = 0) := by
    rcases hsl with ⟨h1, h2, h3⟩ | ⟨h1, h3⟩
    · left
      refine ⟨by simpa using h1, by simpa using h1.symm, by simpa using fun e => hm ⟨h1.symm, e⟩, by simpa using h2, ?_, h3⟩
      rw [← hk]; exact if_pos ⟨h1, h2⟩
    · right
      refine ⟨?_, ?_, h3⟩
      · by_cases hxx : X = X'
        · left; exact ⟨by simpa using hxx, by simpa using hxx.symm, by simpa using fun e => hm ⟨hxx.symm, e⟩, by simpa using fun e => h1 ⟨hxx, e⟩⟩
        · right; exact ⟨by simpa using hxx, by simpa using fun e => hxx e.symm⟩
      · rw [← hk]; exact if_neg h1
  clear NV hn hm hx hy hx' hy' hk hn' hsl hs ht hs2 ht2
  obtain ⟨W, hW⟩ : ∃ W, (((w.alloc (.cells #[.int .i64 P, .int .i64 A, .int .i64 B] 30)).alloc (.cells #[.int .i64 X, .int .i64 Y, .bool false] 32)).alloc (.cells #[.int .i64 X', .int .i64 Y', .bool false] 32)).alloc (.cells #[.int .i64 0, .int .i64 0, .bool false] 32) = W := ⟨_, rfl⟩
  have B0 := show W.heap[w.heap.size]? = some (.cells #[.int .i64 P, .int .i64 A, .int .i64 B] 30 (0, 0)) from hW ▸ Lw.blk_alloc (Lw.blk_alloc (Lw.blk_alloc (Lw.blk_new _ _ _) _) _) _
  have B1 := show W.heap[w.heap.size + 1]? = some (.cells #[.int .i64 X, .int .i64 Y, .bool false] 32 (0, 0)) from hW ▸ Lw.blk_alloc (Lw.blk_alloc (Lw.blk_new' (by simp) _ _) _) _
  have B2 := show W.heap[w.heap.size + 1 + 1]? = some (.cells #[.int .i64 X', .int .i64 Y', .bool false] 32 (0, 0)) from hW ▸ Lw.blk_alloc (Lw.blk_new' (by simp) _ _) _
  have B3 := Lib.hid (show W.heap[w.heap.size + 1 + 1 + 1]? = some (.cells #[.int .i64 0, .int .i64 0, .bool false] 32 (0, 0)) from hW ▸ Lw.blk_new' (by simp) _ _)
  have l0 := Lw.blk_cell B0 0; have l1 := Lw.blk_cell B0 1; have l2 := Lw.blk_cell B0 2
  have k0 := Lw.blk_cell B1 0; have k1 := Lw.blk_cell B1 1; have k2 := Lw.blk_cell B1 2
  have m0 := Lw.blk_cell B2 0; have m1 := Lw.blk_cell B2 1; have m2 := Lw.blk_cell B2 2
  simp at l0 l1 l2 k0 k1 k2 m0 m1 m2
  have hBW : Below w.heap.size w W := by rw [← hW]; exact Lw.balloc (Lw.balloc (Lw.balloc (Lw.balloc (Below.refl _ _) _) _) _) _
  have hWs3 : w.heap.size + 1 + 1 + 1 < W.heap.size := by rw [← hW]; simp
  have hWs : w.heap.size < W.heap.size := by omega
  have hWs1 : w.heap.size + 1 < W.heap.size := by omega
  have hWs2 : w.heap.size + 1 + 1 < W.heap.size := by omega
  have HW := Lib.hid hW
  clear hW B0 B1 B2

  rcases hall with ⟨t1, t2, t3, t4, hk, hnz⟩ | ⟨hor, hk, hnz⟩
  · have O2 := fun w => ref_over P A B (3 * X * X + A) (2 * Y) w hp (by omega) h2 hnz (by omega) (by omega)
    rw [← hk] at O2
    replace O2 := Lib.hid O2
    clear hk hp hnz
    go_enter Try.func18, Try.ntmps18
    go_wp2_with fail
    rw [HW.out]
    refine wp_region_held_drew (S := Lw.Sm W) (by kernel_rfl) (Lw.sm_drew W) (fun hHeld => ?_)
    (refine Lw.take1 (i := 0) (v := ?_) rfl (by kernel_rfl) (by kernel_rfl) (by kernel_rfl) (fun _ _ _ h => h) (Or.inl ⟨by rfl, ?_⟩) (by assumption) ?_; rotate_left 1; (focus (intro wS hSw; obtain ⟨hS1, hS2, hS3, hS4⟩ := hSw; go_simp <;> with_reducible rfl)); (try simp only [Act.put, List.setIfInBounds_toArray, List.set_cons_zero, List.set_cons_succ]))
    (refine Lw.take1 (i := 1) (v := ?_) rfl (by kernel_rfl) (by kernel_rfl) (by kernel_rfl) (fun _ _ _ h => h) (Or.inl ⟨by rfl, ?_⟩) (by assumption) ?_; rotate_left 1; (focus (intro wS hSw; obtain ⟨hS1, hS2, hS3, hS4⟩ := hSw; go_simp <;> with_reducible rfl)); (try simp only [Act.put, List.setIfInBounds_toArray, List.set_cons_zero, List.set_cons_succ]))
    (refine Lw.take1 (i := 2) (v := ?_) rfl (by kernel_rfl) (by kernel_rfl) (by kernel_rfl) (fun _ _ _ h => h) (Or.inl ⟨by rfl, ?_⟩) (by assumption) ?_; rotate_left 1; (focus (intro wS hSw; obtain ⟨hS1, hS2, hS3, hS4⟩ := hSw; go_simp <;> with_reducible rfl)); (try simp only [Act.put, List.setIfInBounds_toArray, List.set_cons_zero, List.set_cons_succ]))
    (refine wpAnyH_ready (rs := [3]) (by kernel_rfl) (by simp) ?_; refine Lw.cons1 (i := 3) rfl (fun K hK => ?_) AllReadyH.nil; go_simp; go_at_call 30; (with_reducible refine (NG.out _).mono ?_); rintro e wx ⟨rfl, hbx⟩; refine hK.out _ _ ?_ (fun hHeld => ?_); (focus exact Lw.sm_keep (Lw.sm_drew W) hbx); clear hK K; (try simp only [Act.put, List.setIfInBounds_toArray, List.set_cons_zero, List.set_cons_succ]))
    (refine Lw.take1 (i := 4) (v := ?_) rfl (by kernel_rfl) (by kernel_rfl) (by kernel_rfl) (fun _ _ _ h => h) (Or.inl ⟨by rfl, ?_⟩) (by assumption) ?_; rotate_left 1; (focus (intro wS hSw; obtain ⟨hS1, hS2, hS3, hS4⟩ := hSw; go_simp <;> with_reducible rfl)); (try simp only [Act.put, List.setIfInBounds_toArray, List.set_cons_zero, List.set_cons_succ]))
    refine wpAnyH_done (by kernel_rfl) ?_ _
    have hS := Lw.sm_keep (Lw.sm_drew W) hbx
    (have q0 := (hS.1 ⟨w.heap.size, 0, none⟩ hWs).trans l0; have q1 := (hS.1 ⟨w.heap.size, 1, none⟩ hWs).trans l1; have q2 := (hS.1 ⟨w.heap.size, 2, none⟩ hWs).trans l2; have q3 := (hS.1 ⟨w.heap.size + 1, 0, none⟩ hWs1).trans k0; have q4 := (hS.1 ⟨w.heap.size + 1, 1, none⟩ hWs1).trans k1; have q5 := (hS.1 ⟨w.heap.size + 1, 2, none⟩ hWs1).trans k2; have q6 := (hS.1 ⟨w.heap.size + 1 + 1, 0, none⟩ hWs2).trans m0; have q7 := (hS.1 ⟨w.heap.size + 1 + 1, 1, none⟩ hWs2).trans m1; have q8 := (hS.1 ⟨w.heap.size + 1 + 1, 2, none⟩ hWs2).trans m2)
    go_wp2_with (first | (go_at_call 31; ((with_reducible refine (O2.out _).mono ?_); rintro e w1 ⟨rfl, hb1⟩; have hS1 := Lw.sm_keep hS hb1; (have q0 := (hS1.1 ⟨w.heap.size, 0, none⟩ hWs).trans l0; have q1 := (hS1.1 ⟨w.heap.size, 1, none⟩ hWs).trans l1; have q2 := (hS1.1 ⟨w.heap.size, 2, none⟩ hWs).trans l2; have q3 := (hS1.1 ⟨w.heap.size + 1, 0, none⟩ hWs1).trans k0; have q4 := (hS1.1 ⟨w.heap.size + 1, 1, none⟩ hWs1).trans k1; have q5 := (hS1.1 ⟨w.heap.size + 1, 2, none⟩ hWs1).trans k2; have q6 := (hS1.1 ⟨w.heap.size + 1 + 1, 0, none⟩ hWs2).trans m0; have q7 := (hS1.1 ⟨w.heap.size + 1 + 1, 1, none⟩ hWs2).trans m1; have q8 := (hS1.1 ⟨w.heap.size + 1 + 1, 2, none⟩ hWs2).trans m2); have D2 := (hS1.2.2.2.block (w.heap.size + 1 + 1 + 1) hWs3).trans B3.out; have f1 := Lw.blk_free D2 0; have f2 := Lw.blk_free D2 1; have f3 := Lw.blk_free D2 2; have c1 := Lw.blk_cell D2 0; have c2 := Lw.blk_cell D2 1; have c3 := Lw.blk_cell D2 2; simp at c1 c2 c3)) | (go_at_call 28; first | ((with_reducible refine (MX.out _).mono ?_); rintro e w' ⟨rfl, rfl⟩) | ((with_reducible refine (MY.out _).mono ?_); rintro e w' ⟨rfl, rfl⟩)))
    obtain ⟨r0, r1, r2⟩ := Lw.set3c (x := .int .i64 x) (y := .int .i64 y) (z := .bool false) D2
    refine bodyPost_ret (v := .agg #[.int .i64 x, .int .i64 y, .bool false]) (by simp only [results, Try.results18]; simp [go_sem, r0, r1, r2]) rfl ⟨by rw [E.out], Lw.bset3 (Lw.bt hBW hS1.2.2.2) (by omega) _ _ _⟩
  · have O2 := fun w => ref_over P A B (Y' - Y) (X' - X) w hp (by omega) h2 hnz (by omega) (by omega)
    rw [← hk] at O2
    replace O2 := Lib.hid O2
    clear hk hp hnz
    rcases hor with ⟨t1, t2, t3, t4⟩ | ⟨t1, t2⟩
    all_goals
      go_enter Try.func18, Try.ntmps18
      go_wp2_with fail
      rw [HW.out]
      refine wp_region_held_drew (S := Lw.Sm W) (by kernel_rfl) (Lw.sm_drew W) (fun hHeld => ?_)
      (refine Lw.take1 (i := 0) (v := ?_) rfl (by kernel_rfl) (by kernel_rfl) (by kernel_rfl) (fun _ _ _ h => h) (Or.inl ⟨by rfl, ?_⟩) (by assumption) ?_; rotate_left 1; (focus (intro wS hSw; obtain ⟨hS1, hS2, hS3, hS4⟩ := hSw; go_simp <;> with_reducible rfl)); (try simp only [Act.put, List.setIfInBounds_toArray, List.set_cons_zero, List.set_cons_succ]))
      (refine Lw.take1 (i := 1) (v := ?_) rfl (by kernel_rfl) (by kernel_rfl) (by kernel_rfl) (fun _ _ _ h => h) (Or.inl ⟨by rfl, ?_⟩) (by assumption) ?_; rotate_left 1; (focus (intro wS hSw; obtain ⟨hS1, hS2, hS3, hS4⟩ := hSw; go_simp <;> with_reducible rfl)); (try simp only [Act.put, List.setIfInBounds_toArray, List.set_cons_zero, List.set_cons_succ]))
      (refine Lw.take1 (i := 2) (v := ?_) rfl (by kernel_rfl) (by kernel_rfl) (by kernel_rfl) (fun _ _ _ h => h) (Or.inl ⟨by rfl, ?_⟩) (by assumption) ?_; rotate_left 1; (focus (intro wS hSw; obtain ⟨hS1, hS2, hS3, hS4⟩ := hSw; go_simp <;> with_reducible rfl)); (try simp only [Act.put, List.setIfInBounds_toArray, List.set_cons_zero, List.set_cons_succ]))
      (refine wpAnyH_ready (rs := [3]) (by kernel_rfl) (by simp) ?_; refine Lw.cons1 (i := 3) rfl (fun K hK => ?_) AllReadyH.nil; go_simp; go_at_call 30; (with_reducible refine (NG.out _).mono ?_); rintro e wx ⟨rfl, hbx⟩; refine hK.out _ _ ?_ (fun hHeld => ?_); (focus exact Lw.sm_keep (Lw.sm_drew W) hbx); clear hK K; (try simp only [Act.put, List.setIfInBounds_toArray, List.set_cons_zero, List.set_cons_succ]))
      (refine Lw.take1 (i := 4) (v := ?_) rfl (by kernel_rfl) (by kernel_rfl) (by kernel_rfl) (fun _ _ _ h => h) (Or.inl ⟨by rfl, ?_⟩) (by assumption) ?_; rotate_left 1; (focus (intro wS hSw; obtain ⟨hS1, hS2, hS3, hS4⟩ := hSw; go_simp <;> with_reducible rfl)); (try simp only [Act.put, List.setIfInBounds_toArray, List.set_cons_zero, List.set_cons_succ]))
      refine wpAnyH_done (by kernel_rfl) ?_ _
      have hS := Lw.sm_keep (Lw.sm_drew W) hbx
      (have q0 := (hS.1 ⟨w.heap.size, 0, none⟩ hWs).trans l0; have q1 := (hS.1 ⟨w.heap.size, 1, none⟩ hWs).trans l1; have q2 := (hS.1 ⟨w.heap.size, 2, none⟩ hWs).trans l2; have q3 := (hS.1 ⟨w.heap.size + 1, 0, none⟩ hWs1).trans k0; have q4 := (hS.1 ⟨w.heap.size + 1, 1, none⟩ hWs1).trans k1; have q5 := (hS.1 ⟨w.heap.size + 1, 2, none⟩ hWs1).trans k2; have q6 := (hS.1 ⟨w.heap.size + 1 + 1, 0, none⟩ hWs2).trans m0; have q7 := (hS.1 ⟨w.heap.size + 1 + 1, 1, none⟩ hWs2).trans m1; have q8 := (hS.1 ⟨w.heap.size + 1 + 1, 2, none⟩ hWs2).trans m2)
      go_wp2_with (first | (go_at_call 31; ((with_reducible refine (O2.out _).mono ?_); rintro e w1 ⟨rfl, hb1⟩; have hS1 := Lw.sm_keep hS hb1; (have q0 := (hS1.1 ⟨w.heap.size, 0, none⟩ hWs).trans l0; have q1 := (hS1.1 ⟨w.heap.size, 1, none⟩ hWs).trans l1; have q2 := (hS1.1 ⟨w.heap.size, 2, none⟩ hWs).trans l2; have q3 := (hS1.1 ⟨w.heap.size + 1, 0, none⟩ hWs1).trans k0; have q4 := (hS1.1 ⟨w.heap.size + 1, 1, none⟩ hWs1).trans k1; have q5 := (hS1.1 ⟨w.heap.size + 1, 2, none⟩ hWs1).trans k2; have q6 := (hS1.1 ⟨w.heap.size + 1 + 1, 0, none⟩ hWs2).trans m0; have q7 := (hS1.1 ⟨w.heap.size + 1 + 1, 1, none⟩ hWs2).trans m1; have q8 := (hS1.1 ⟨w.heap.size + 1 + 1, 2, none⟩ hWs2).trans m2); have D2 := (hS1.2.2.2.block (w.heap.size + 1 + 1 + 1) hWs3).trans B3.out; have f1 := Lw.blk_free D2 0; have f2 := Lw.blk_free D2 1; have f3 := Lw.blk_free D2 2; have c1 := Lw.blk_cell D2 0; have c2 := Lw.blk_cell D2 1; have c3 := Lw.blk_cell D2 2; simp at c1 c2 c3)) | (go_at_call 28; first | ((with_reducible refine (MX.out _).mono ?_); rintro e w' ⟨rfl, rfl⟩) | ((with_reducible refine (MY.out _).mono ?_); rintro e w' ⟨rfl, rfl⟩)))
      obtain ⟨r0, r1, r2⟩ := Lw.set3c (x := .int .i64 x) (y := .int .i64 y) (z := .bool false) D2
      refine bodyPost_ret (v := .agg #[.int .i64 x, .int .i64 y, .bool false]) (by simp only [results, Try.results18]; simp [go_sem, r0, r1, r2]) rfl ⟨by rw [E.out], Lw.bset3 (Lw.bt hBW hS1.2.2.2) (by omega) _ _ _⟩
theorem ref_SpotAdd (P A B X Y X' Y' : Int) (F F' : Bool) (w : World) (hc : Lw.crvR P A B) (hp : Lw.primeB P = true) (hs : Lw.spotB P A B X Y F = true) (ht : Lw.spotB P A B X' Y' F' = true) :
    Calls Try.prog 18 #[.agg #[.int .i64 P, .int .i64 A, .int .i64 B], .agg #[.int .i64 X, .int .i64 Y, .bool F], .agg #[.int .i64 X', .int .i64 Y', .bool F']] w fun e w' => e = .returned (Lw.addT P A ⟨X, Y, F⟩ ⟨X', Y', F'⟩).v ∧ Below w.heap.size w w' := by
  cases F with
  | true => exact ref_SpotAdd_far P A B X Y X' Y' _ _ w (.inl rfl)
  | false =>
    cases F' with
    | true => exact ref_SpotAdd_far P A B X Y X' Y' _ _ w (.inr rfl)
    | false =>
      by_cases hn : X = X' ∧ Y = (-Y') % P
      · exact ref_SpotAdd_neg P A B X Y X' Y' w hc hs ht hn
      · exact ref_SpotAdd_sum P A B X Y X' Y' w hc hp hs ht hn
end Go.Proofs.Ytafefengppiobaa

/- Curves: what may be one; curve.Check and the reference's CurveCheck. -/
import Derived.Test.YtoignifimgioaaaIs
import Derived.Test.YtoignifimgioaaaPow
import Derived.Test.YtoignifimgioaaaRegS
namespace Lw
/-- the discriminant, by P -/
def disc (P A B : Int) : Int := (4 * (A * A * A) + 27 * (B * B)) % P
def crvR (P A B : Int) : Prop := 5 ≤ P ∧ P ≤ 1009 ∧ 0 ≤ A ∧ A < P ∧ 0 ≤ B ∧ B < P
instance (P A B : Int) : Decidable (crvR P A B) := inferInstanceAs (Decidable (_ ∧ _ ∧ _ ∧ _ ∧ _ ∧ _))
def crvE (P A B : Int) : Int := if ¬ crvR P A B then 2 else if primeB P = false ∨ disc P A B = 0 then 3 else 0
theorem crv_range {P A B : Int} (h : ¬ crvR P A B) : crvE P A B = 2 := if_pos h
theorem crv_arg {P A B : Int} (h : crvR P A B) (h2 : primeB P = false ∨ disc P A B = 0) : crvE P A B = 3 := by unfold crvE; rw [if_neg (by simpa using h), if_pos h2]
theorem crv_ok {P A B : Int} (h : crvR P A B) (h1 : primeB P = true) (h2 : ¬ disc P A B = 0) : crvE P A B = 0 := by unfold crvE; rw [if_neg (by simpa using h), if_neg (by rw [h1]; simp [h2])]
theorem of_crv {P A B : Int} (h : crvE P A B = 0) : crvR P A B ∧ primeB P = true ∧ ¬ disc P A B = 0 := by
  unfold crvE at h
  split at h
  · simp at h
  · rename_i h1
    split at h
    · simp at h
    · rename_i h2
      refine ⟨by simpa using h1, ?_, fun e => h2 (.inr e)⟩
      cases hp : primeB P
      · exact absurd (.inl hp) h2
      · rfl
theorem disc_prog (P A B : Int) : (4 * A * A % P * A + 27 * B * B) % P = disc P A B := by
  unfold disc
  rw [Int.add_emod, Int.mul_emod (4 * A * A % P), Int.emod_emod, ← Int.mul_emod, ← Int.add_emod]
  congr 1
  grind
theorem disc_ref (P A B : Int) : (4 * pw A 3 P + 27 * pw B 2 P) % P = disc P A B := by
  unfold disc pw
  rw [Int.add_emod, Int.mul_emod 4, Int.emod_emod, ← Int.mul_emod, Int.mul_emod 27, Int.emod_emod, ← Int.mul_emod, ← Int.add_emod]
  congr 1
  rw [show Int.toNat 3 = 3 from rfl, show Int.toNat 2 = 2 from rfl]
  grind
theorem disc_bds {P A B : Int} (h : crvR P A B) : 0 ≤ 4 * A * A ∧ 4 * A * A ≤ 4096000 ∧ 0 ≤ 4 * A * A % P * A ∧ 4 * A * A % P * A ≤ 1024000 ∧ 0 ≤ 27 * B * B ∧ 27 * B * B ≤ 27648000 := by
  obtain ⟨h1, h2, h3, h4, h5, h6⟩ := h
  have a1 := (mul_bd' A A 1009 h3 (by omega) h3 (by omega))
  have b1 := (mul_bd' B B 1009 h5 (by omega) h5 (by omega))
  have r0 := Int.emod_nonneg (4 * A * A) (by omega : P ≠ 0)
  have r1 := Int.emod_lt_of_pos (4 * A * A) (by omega : 0 < P)
  have c1 := (mul_bd' (4 * A * A % P) A 1009 r0 (by omega) h3 (by omega))
  have e1 : 4 * A * A = 4 * (A * A) := Int.mul_assoc 4 A A
  have e2 : 27 * B * B = 27 * (B * B) := Int.mul_assoc 27 B B
  omega
theorem range_cases {P A B : Int} (h : ¬ crvR P A B) : P < 5 ∨ (5 ≤ P ∧ 1009 < P) ∨ (5 ≤ P ∧ P ≤ 1009 ∧ A < 0) ∨ (5 ≤ P ∧ P ≤ 1009 ∧ 0 ≤ A ∧ P ≤ A) ∨ (5 ≤ P ∧ P ≤ 1009 ∧ 0 ≤ A ∧ A < P ∧ B < 0) ∨ (5 ≤ P ∧ P ≤ 1009 ∧ 0 ≤ A ∧ A < P ∧ 0 ≤ B ∧ P ≤ B) := by
  unfold crvR at h; omega
end Lw
set_option linter.unusedVariables false
set_option linter.unusedSimpArgs false
namespace Go.Proofs.Ytoignifimgioaaa
open Go.RowKit
set_option maxHeartbeats 2000000 in
theorem curve_Check_range (P A B : Int) (w : World) (h : ¬ Lw.crvR P A B) :
    Calls Try.prog 18 #[.agg #[.int .i64 P, .int .i64 A, .int .i64 B]] w fun e w' => e = .returned (.int .i64 (Lw.crvE P A B)) ∧ Below w.heap.size w w' := by
  have E := Lib.hid (Lw.crv_range h)
  have hc := Lw.range_cases h
  clear h
  have hAB : A ≤ B ∨ B < A := by omega
  rcases hAB with hAB | hAB
  all_goals
    rcases hc with h1 | ⟨h1, h2⟩ | ⟨h1, h2, h3⟩ | ⟨h1, h2, h3, h4⟩ | ⟨h1, h2, h3, h4, h5⟩ | ⟨h1, h2, h3, h4, h5, h6⟩
    all_goals
      go_enter Try.func18, Try.ntmps18
      go_wp2
      all_goals (try (exfalso; omega))
      all_goals
        go_ret
        exact ⟨Lw.ret_int E.out.symm, by (repeat (first | exact Below.refl _ _ | refine Lw.bt ?_ (by assumption) | refine Lw.balloc ?_ _ | refine Lw.bdrewN ?_ _ | refine Below.drew ?_ | refine Lw.bset ?_ (by first | (simp; done) | (simp; omega) | omega) _))⟩
set_option maxHeartbeats 2000000 in
theorem curve_Check_in (P A B : Int) (w : World) (h : Lw.crvR P A B) :
    Calls Try.prog 18 #[.agg #[.int .i64 P, .int .i64 A, .int .i64 B]] w fun e w' => e = .returned (.int .i64 (Lw.crvE P A B)) ∧ Below w.heap.size w w' := by
  have HR := Lib.hid h
  obtain ⟨q1, q2, q3, q4, q5, q6⟩ := Lw.disc_bds h
  have D := Lib.hid (Lw.disc_prog P A B)
  obtain ⟨h1, h2, h3, h4, h5, h6⟩ := h
  have hP0 : ¬ P = 0 := by omega
  have e1 : (4 * A * A).tmod P = 4 * A * A % P := Int.tmod_eq_emod_of_nonneg q1
  have e2 : (4 * A * A % P * A + 27 * B * B).tmod P = Lw.disc P A B := by rw [Int.tmod_eq_emod_of_nonneg (by omega), D.out]
  have e3 : IntKind.i64.wrap (4 * A * A) = 4 * A * A := by rw [IntKind.wrap_i64]; omega
  have e4 : IntKind.i64.wrap (4 * A * A % P * A) = 4 * A * A % P * A := by rw [IntKind.wrap_i64]; omega
  have e5 : IntKind.i64.wrap (27 * B * B) = 27 * B * B := by rw [IntKind.wrap_i64]; omega
  have e6 : IntKind.i64.wrap (4 * A * A % P * A + 27 * B * B) = 4 * A * A % P * A + 27 * B * B := by rw [IntKind.wrap_i64]; omega
  have PI := Lib.hid (fun w => primes_Is P w (by omega) (by omega))
  have hAB : A ≤ B ∨ B < A := by omega
  have d0 := Int.emod_nonneg (4 * (A * A * A) + 27 * (B * B)) hP0
  have d1 := Int.emod_lt_of_pos (4 * (A * A * A) + 27 * (B * B)) (by omega : 0 < P)
  have hD0 : 0 ≤ Lw.disc P A B ∧ Lw.disc P A B < P := ⟨d0, d1⟩
  clear d0 d1
  obtain ⟨hd0, hd1⟩ := hD0
  have E := Lib.hid (show ∀ b, Lw.primeB P = b → Lw.crvE P A B = if b = false ∨ Lw.disc P A B = 0 then 3 else 0 from fun b hb => by unfold Lw.crvE; rw [if_neg (by simpa using HR.out), hb])
  rcases hp : Lw.primeB P with _ | _
  · have PJ := fun w => PI.out w
    rw [hp] at PJ
    replace PJ := Lib.hid PJ
    have E1 : Hid (Lw.crvE P A B = 3) := by rw [E.out _ hp]; simp [Hid]
    clear PI hp E
    rcases hAB with hAB | hAB
    all_goals
      go_enter Try.func18, Try.ntmps18
      go_wp2_with (go_at_call 48; (with_reducible refine (PJ.out _).mono ?_); rintro e w1 ⟨rfl, hb1⟩; obtain ⟨hc1, hf1⟩ := Lw.bcell hb1; have hz1 := hb1.size; (try simp at hz1); have hy1_00 : w.heap.size < w1.heap.size := (by omega); have hy1_01 : w.heap.size < w1.heap.size + 1 := (by omega); have hy1_02 : w.heap.size < w1.heap.size + 1 + 1 := (by omega))
      all_goals (try (exfalso; omega))
      all_goals
        go_quiet (fail)
        go_wp2
        go_ret
        exact ⟨Lw.ret_int E1.out.symm, by (repeat (first | exact Below.refl _ _ | refine Lw.bt ?_ (by assumption) | refine Lw.balloc ?_ _ | refine Lw.bdrewN ?_ _ | refine Below.drew ?_ | refine Lw.bset ?_ (by first | (simp; done) | (simp; omega) | omega) _))⟩
  · have PJ := fun w => PI.out w
    rw [hp] at PJ
    replace PJ := Lib.hid PJ
    have E1 : Hid (Lw.crvE P A B = if Lw.disc P A B = 0 then 3 else 0) := by rw [E.out _ hp]; simp [Hid]
    clear PI hp E
    by_cases hd : Lw.disc P A B = 0
    · rw [if_pos hd] at E1
      rw [hd] at e2
      rcases hAB with hAB | hAB
      all_goals
        go_enter Try.func18, Try.ntmps18
        go_wp2_with (go_at_call 48; (with_reducible refine (PJ.out _).mono ?_); rintro e w1 ⟨rfl, hb1⟩; obtain ⟨hc1, hf1⟩ := Lw.bcell hb1; have hz1 := hb1.size; (try simp at hz1); have hy1_00 : w.heap.size < w1.heap.size := (by omega); have hy1_01 : w.heap.size < w1.heap.size + 1 := (by omega); have hy1_02 : w.heap.size < w1.heap.size + 1 + 1 := (by omega))
        all_goals (try (exfalso; omega))
        all_goals
          go_quiet (fail)
          go_wp2
          go_ret
          exact ⟨Lw.ret_int E1.out.symm, by (repeat (first | exact Below.refl _ _ | refine Lw.bt ?_ (by assumption) | refine Lw.balloc ?_ _ | refine Lw.bdrewN ?_ _ | refine Below.drew ?_ | refine Lw.bset ?_ (by first | (simp; done) | (simp; omega) | omega) _))⟩
    · rw [if_neg hd] at E1
      have hd2 : (Lw.disc P A B == 0) = false := by simpa using hd
      rcases hAB with hAB | hAB
      all_goals
        go_enter Try.func18, Try.ntmps18
        go_wp2_with (go_at_call 48; (with_reducible refine (PJ.out _).mono ?_); rintro e w1 ⟨rfl, hb1⟩; obtain ⟨hc1, hf1⟩ := Lw.bcell hb1; have hz1 := hb1.size; (try simp at hz1); have hy1_00 : w.heap.size < w1.heap.size := (by omega); have hy1_01 : w.heap.size < w1.heap.size + 1 := (by omega); have hy1_02 : w.heap.size < w1.heap.size + 1 + 1 := (by omega))
        all_goals (try (exfalso; omega))
        all_goals
          go_quiet (fail)
          go_wp2
          go_ret
          exact ⟨Lw.ret_int E1.out.symm, by (repeat (first | exact Below.refl _ _ | refine Lw.bt ?_ (by assumption) | refine Lw.balloc ?_ _ | refine Lw.bdrewN ?_ _ | refine Below.drew ?_ | refine Lw.bset ?_ (by first | (simp; done) | (simp; omega) | omega) _))⟩
theorem curve_Check (P A B : Int) (w : World) :
    Calls Try.prog 18 #[.agg #[.int .i64 P, .int .i64 A, .int .i64 B]] w fun e w' => e = .returned (.int .i64 (Lw.crvE P A B)) ∧ Below w.heap.size w w' := by
  by_cases h : Lw.crvR P A B
  · exact curve_Check_in P A B w h
  · exact curve_Check_range P A B w h
set_option maxHeartbeats 2000000 in
theorem ref_CurveCheck_range (P A B : Int) (w : World) (h : ¬ Lw.crvR P A B) :
    Calls Try.prog 19 #[.agg #[.int .i64 P, .int .i64 A, .int .i64 B]] w fun e w' => e = .returned (.int .i64 (Lw.crvE P A B)) ∧ Below w.heap.size w w' := by
  have E := Lib.hid (Lw.crv_range h)
  have hc := Lw.range_cases h
  clear h
  rcases hc with h1 | ⟨h1, h2⟩ | ⟨h1, h2, h3⟩ | ⟨h1, h2, h3, h4⟩ | ⟨h1, h2, h3, h4, h5⟩ | ⟨h1, h2, h3, h4, h5, h6⟩
  all_goals
    go_enter Try.func19, Try.ntmps19
    go_wp2
    go_ret
    exact ⟨Lw.ret_int E.out.symm, by (repeat (first | exact Below.refl _ _ | refine Lw.bt ?_ (by assumption) | refine Lw.balloc ?_ _ | refine Lw.bdrewN ?_ _ | refine Below.drew ?_ | refine Lw.bset ?_ (by first | (simp; done) | (simp; omega) | omega) _))⟩
set_option maxHeartbeats 2000000 in
theorem ref_CurveCheck_in (P A B : Int) (w : World) (h : Lw.crvR P A B) :
    Calls Try.prog 19 #[.agg #[.int .i64 P, .int .i64 A, .int .i64 B]] w fun e w' => e = .returned (.int .i64 (Lw.crvE P A B)) ∧ Below w.heap.size w w' := by
  have HR := Lib.hid h
  have D := Lib.hid (Lw.disc_ref P A B)
  obtain ⟨h1, h2, h3, h4, h5, h6⟩ := h
  have hP0 : ¬ P = 0 := by omega
  have PI := Lib.hid (fun w => ref_Is P w (by omega))
  have X3 := Lib.hid (fun w => ref_Pow _ A 3 P w (Nat.le_refl _) (by omega) (by omega) (by omega) (by omega))
  have X2 := Lib.hid (fun w => ref_Pow _ B 2 P w (Nat.le_refl _) (by omega) (by omega) (by omega) (by omega))
  obtain ⟨a1, a2⟩ := Lw.pw_bd A 3 P (by omega)
  obtain ⟨b1, b2⟩ := Lw.pw_bd B 2 P (by omega)
  have d0 := Int.emod_nonneg (4 * (A * A * A) + 27 * (B * B)) hP0
  have d1 := Int.emod_lt_of_pos (4 * (A * A * A) + 27 * (B * B)) (by omega : 0 < P)
  have hD0 : 0 ≤ Lw.disc P A B ∧ Lw.disc P A B < P := ⟨d0, d1⟩
  clear d0 d1
  obtain ⟨hd0, hd1⟩ := hD0
  have X4 := fun w => ref_Mod (4 * Lw.pw A 3 P + 27 * Lw.pw B 2 P) P w (by omega) (by omega)
  rw [D.out] at X4
  replace X4 := Lib.hid X4
  have E := Lib.hid (show ∀ b, Lw.primeB P = b → Lw.crvE P A B = if b = false ∨ Lw.disc P A B = 0 then 3 else 0 from fun b hb => by unfold Lw.crvE; rw [if_neg (by simpa using HR.out), hb])
  rcases hp : Lw.primeB P with _ | _
  · have PJ := fun w => PI.out w
    rw [hp] at PJ
    replace PJ := Lib.hid PJ
    have E1 : Hid (Lw.crvE P A B = 3) := by rw [E.out _ hp]; simp [Hid]
    clear PI hp E
    go_enter Try.func19, Try.ntmps19
    go_wp2_with fail
    go_quiet ((go_at_call 33; exact Lw.quiet (PJ.out _)))
    go_wp2
    go_ret
    exact ⟨Lw.ret_int E1.out.symm, by (repeat (first | exact Below.refl _ _ | refine Lw.bt ?_ (by assumption) | refine Lw.balloc ?_ _ | refine Lw.bdrewN ?_ _ | refine Below.drew ?_ | refine Lw.bset ?_ (by first | (simp; done) | (simp; omega) | omega) _))⟩
  · have PJ := fun w => PI.out w
    rw [hp] at PJ
    replace PJ := Lib.hid PJ
    have E1 : Hid (Lw.crvE P A B = if Lw.disc P A B = 0 then 3 else 0) := by rw [E.out _ hp]; simp [Hid]
    clear PI hp E
    by_cases hd : Lw.disc P A B = 0
    · rw [if_pos hd] at E1
      have X5 := X4.out
      rw [hd] at X5
      replace X5 := Lib.hid X5
      go_enter Try.func19, Try.ntmps19
      go_wp2_with fail
      go_quiet ((first | (go_at_call 33; exact Lw.quiet (PJ.out _)) | (go_at_call 42; first | with_reducible exact Lw.quiet (X3.out _) | with_reducible exact Lw.quiet (X2.out _)) | (go_at_call 31; exact Lw.quiet (X5.out _))))
      go_wp2
      go_ret
      exact ⟨Lw.ret_int E1.out.symm, by (repeat (first | exact Below.refl _ _ | refine Lw.bt ?_ (by assumption) | refine Lw.balloc ?_ _ | refine Lw.bdrewN ?_ _ | refine Below.drew ?_ | refine Lw.bset ?_ (by first | (simp; done) | (simp; omega) | omega) _))⟩
    · rw [if_neg hd] at E1
      have hd2 : (Lw.disc P A B == 0) = false := by simpa using hd
      go_enter Try.func19, Try.ntmps19
      go_wp2_with fail
      go_quiet ((first | (go_at_call 33; exact Lw.quiet (PJ.out _)) | (go_at_call 42; first | with_reducible exact Lw.quiet (X3.out _) | with_reducible exact Lw.quiet (X2.out _)) | (go_at_call 31; exact Lw.quiet (X4.out _))))
      go_wp2
      go_ret
      exact ⟨Lw.ret_int E1.out.symm, by (repeat (first | exact Below.refl _ _ | refine Lw.bt ?_ (by assumption) | refine Lw.balloc ?_ _ | refine Lw.bdrewN ?_ _ | refine Below.drew ?_ | refine Lw.bset ?_ (by first | (simp; done) | (simp; omega) | omega) _))⟩
theorem ref_CurveCheck (P A B : Int) (w : World) :
    Calls Try.prog 19 #[.agg #[.int .i64 P, .int .i64 A, .int .i64 B]] w fun e w' => e = .returned (.int .i64 (Lw.crvE P A B)) ∧ Below w.heap.size w w' := by
  by_cases h : Lw.crvR P A B
  · exact ref_CurveCheck_in P A B w h
  · exact ref_CurveCheck_range P A B w h
end Go.Proofs.Ytoignifimgioaaa

/- Contract of euclid.Bezout. -/
import Derived.Test.YtoignifimgioaaaEuc
namespace Lw
/-- what Bezout tells of two numbers in range -/
structure BezPost (a b g x y : Int) : Prop where
  gcd : g = gcdI a b
  zero : b = 0 → y = 0 ∧ x * a = g ∧ -1 ≤ x ∧ x ≤ 1 ∧ (a = 0 → x = 0)
  pos : ¬ b = 0 → 0 ≤ x ∧ x < absI b / g ∧ b ∣ g - x * a ∧ y = (g - x * a).tdiv b
theorem bez_x {a b g x : Int} (hb : ¬ b = 0) (hg : g = gcdI a b) (h : b ∣ x * a - g) : 0 < absI b / g ∧ 0 ≤ x % (absI b / g) ∧ x % (absI b / g) < absI b / g ∧ b ∣ g - x % (absI b / g) * a := by
  have hg0 : 0 < g := by rw [hg]; exact gcdI_pos (.inr hb)
  have hgb : g ∣ absI b := by rw [hg]; unfold absI; exact Int.dvd_natAbs.2 (gcdI_dvd_right a b)
  have hm : 0 < absI b / g := by
    have h1 : 0 < absI b := by have := absI_nonneg b; have : absI b ≠ 0 := fun e => hb (absI_eq_zero e); omega
    exact Int.ediv_pos_of_pos_of_dvd h1 (by omega) hgb
  obtain ⟨h1, h2⟩ := emod_bd x _ hm
  refine ⟨hm, h1, h2, ?_⟩
  have e1 : x = x % (absI b / g) + absI b / g * (x / (absI b / g)) := (Int.emod_add_mul_ediv x _).symm
  obtain ⟨c, hc⟩ : g ∣ a := by rw [hg]; exact gcdI_dvd_left a b
  have e2 : absI b / g * g = absI b := Int.ediv_mul_cancel hgb
  have hd : b ∣ absI b := by unfold absI; exact Int.dvd_natAbs.2 (Int.dvd_refl b)
  have e3 : g - x % (absI b / g) * a = absI b * (x / (absI b / g)) * c - (x * a - g) := by
    generalize x % (absI b / g) = r at *
    generalize x / (absI b / g) = q at *
    generalize absI b / g = D at *
    generalize absI b = B at *
    grind
  rw [e3]
  exact Int.dvd_sub (Int.dvd_trans hd (Int.dvd_trans (Int.dvd_mul_right _ _) (Int.dvd_mul_right _ _))) h
theorem bez_prod {x a : Int} (hx : 0 ≤ x) (hx' : x ≤ 2147483648) (ha : absI a ≤ 2147483648) : -4611686018427387904 ≤ x * a ∧ x * a ≤ 4611686018427387904 := by
  have h := (mul_bd' (absI x) (absI a) 2147483648 (absI_nonneg _) (by rw [absI_pos hx]; exact hx') (absI_nonneg _) ha).2
  rw [← absI_mul] at h
  exact absI_le (by omega)
theorem tdiv_le {c d B : Int} (h1 : -B ≤ c) (h2 : c ≤ B) : -B ≤ c.tdiv d ∧ c.tdiv d ≤ B := by
  refine absI_le ?_
  have h : absI c ≤ B := by unfold absI; omega
  have h1 : absI (c.tdiv d) ≤ absI c := by
    by_cases hd : d = 0
    · subst hd; simp [absI]
    · have h0 := tdiv_abs c d
      have d0 : 1 ≤ absI d := by have := absI_nonneg d; have : absI d ≠ 0 := fun e => hd (absI_eq_zero e); omega
      have := Int.mul_le_mul_of_nonneg_left d0 (absI_nonneg (c.tdiv d))
      have := absI_nonneg (c - c.tdiv d * d)
      omega
  omega
theorem neg_dvd_step {a b g x : Int} (h : b ∣ x * a - g) : b ∣ -x * a - -g := by
  have : -x * a - -g = -(x * a - g) := by rw [Int.neg_mul]; omega
  rw [this]
  exact Int.dvd_neg.2 h
end Lw
set_option linter.unusedVariables false
set_option linter.unusedSimpArgs false
namespace Go.Proofs.Ytoignifimgioaaa
open Go.RowKit
def BezEnd (a b : Int) (w : World) (e : Ending) (w' : World) : Prop := ∃ g x y, Lw.BezPost a b g x y ∧ e = .returned (.tuple #[.int .i64 g, .int .i64 x, .int .i64 y, .int .i64 0]) ∧ Below w.heap.size w w'

theorem euclid_Bezout_bad (a b : Int) (w : World) (h : Lw.farB a = true ∨ Lw.farB b = true) :
    Calls Try.prog 73 #[.int .i64 a, .int .i64 b] w fun e w' => e = .returned (.tuple #[.int .i64 0, .int .i64 0, .int .i64 0, .int .i64 2]) ∧ Below w.heap.size w w' := by
  have hc : a < -2147483648 ∨ (-2147483648 ≤ a ∧ 2147483648 < a) ∨ ((-2147483648 ≤ a ∧ a ≤ 2147483648) ∧ (b < -2147483648 ∨ (-2147483648 ≤ b ∧ 2147483648 < b))) := by unfold Lw.farB at h; simp at h; omega
  clear h
  rcases hc with h | ⟨h, h'⟩ | ⟨⟨h1, h2⟩, h | ⟨h, h'⟩⟩
  all_goals
    go_enter Try.func73, Try.ntmps73
    go_wp2_with fail
    go_in
    go_wp2_with fail
    (refine wp_loop_rounds 3 ?_; repeat any_goals (rw [rounds_succ]; go_wp2_with fail))
    refine bodyPost_ret (v := .tuple #[.int .i64 0, .int .i64 0, .int .i64 0, .int .i64 2]) (by simp [results, Try.results73, go_sem]) rfl ⟨rfl, by go_grown⟩

set_option maxHeartbeats 1000000 in
theorem euclid_Bezout (a b : Int) (w : World) (ha : Lw.farB a = false) (hb : Lw.farB b = false) :
    Calls Try.prog 73 #[.int .i64 a, .int .i64 b] w (BezEnd a b w) := by
  obtain ⟨a1, a2⟩ := Lw.of_farB_false ha
  obtain ⟨b1, b2⟩ := Lw.of_farB_false hb
  have A := Lib.hid (show Lw.absI a ≤ 2147483648 by unfold Lw.absI; omega)
  have B := Lib.hid (show Lw.absI b ≤ 2147483648 by unfold Lw.absI; omega)
  clear ha hb
  go_enter Try.func73, Try.ntmps73
  go_wp2_with fail
  go_in
  go_wp2_with fail
  (refine wp_loop_rounds 3 ?_; repeat any_goals (rw [rounds_succ]; go_wp2_with fail))
  refine (euclid_step _ _ _ (by have := A.out; omega) (by have := B.out; omega)).mono ?_
  rintro e w' ⟨g0, x0, hP, rfl, rfl⟩
  obtain ⟨p1, p2, p3, _⟩ := hP
  obtain ⟨x1, x2⟩ := Lw.absI_le (a := x0) (b := 2147483649) (by have := B.out; omega)
  obtain ⟨g1, g2⟩ := Lw.gcd_bd p1 (by have := A.out; omega) (by have := B.out; omega)
  have hgx : (g0 < 0 ∧ -g0 = Lw.gcdI a b ∧ b ∣ -x0 * a - -g0) ∨ (¬ g0 < 0 ∧ g0 = Lw.gcdI a b ∧ b ∣ x0 * a - g0) := by
    by_cases h : g0 < 0
    · exact .inl ⟨h, by rw [← p1, Lw.absI_neg h], Lw.neg_dvd_step p2⟩
    · exact .inr ⟨h, by rw [← p1, Lw.absI_pos (by omega)], p2⟩
  have P3 := Lib.hid p3
  clear p1 p2 p3
  by_cases hb0 : b = 0
  · subst hb0
    have hz : ((0 : Int) == 0) = true := rfl
    rcases hgx with ⟨h, hg, hd⟩ | ⟨h, hg, hd⟩
    · have hx : -x0 * a = -g0 ∧ ¬ a = 0 ∧ -1 ≤ -x0 ∧ -x0 ≤ 1 := by
        have h1 := Int.zero_dvd.1 hd
        have h2 := P3.out
        have h3 : Lw.absI x0 ≤ 1 := h2
        have h4 := Lw.absI_le h3
        refine ⟨by omega, fun e => ?_, by omega, by omega⟩
        subst e
        simp at h1
        omega
      have P : Hid (Lw.BezPost a 0 (-g0) (-x0) 0) := ⟨hg, fun _ => ⟨rfl, hx.1, hx.2.2.1, hx.2.2.2, fun e => absurd e hx.2.1⟩, fun e => absurd rfl e⟩
      have ha0 : (a == 0) = false := by simpa using hx.2.1
      clear hx hg hd
      go_wp2
      exact bodyPost_ret (v := .tuple #[.int .i64 (-g0), .int .i64 (-x0), .int .i64 0, .int .i64 0]) (by simp [results, Try.results73, go_sem]) rfl ⟨_, _, _, P.out, rfl, by go_grown⟩
    · by_cases ha0 : a = 0
      · subst ha0
        have P : Hid (Lw.BezPost 0 0 0 0 0) := ⟨rfl, fun _ => ⟨rfl, rfl, by omega, by omega, fun _ => rfl⟩, fun e => absurd rfl e⟩
        go_wp2
        exact bodyPost_ret (v := .tuple #[.int .i64 0, .int .i64 0, .int .i64 0, .int .i64 0]) (by simp [results, Try.results73, go_sem]) rfl ⟨_, _, _, P.out, rfl, by go_grown⟩
      · have hx : x0 * a = g0 ∧ -1 ≤ x0 ∧ x0 ≤ 1 := by
          have h1 := Int.zero_dvd.1 hd
          have h2 := P3.out
          have h3 : Lw.absI x0 ≤ 1 := h2
          have h4 := Lw.absI_le h3
          exact ⟨by omega, by omega, by omega⟩
        have P : Hid (Lw.BezPost a 0 g0 x0 0) := ⟨hg, fun _ => ⟨rfl, hx.1, hx.2.1, hx.2.2, fun e => absurd e ha0⟩, fun e => absurd rfl e⟩
        have ha1 : (a == 0) = false := by simpa using ha0
        clear hx hg hd
        go_wp2
        exact bodyPost_ret (v := .tuple #[.int .i64 g0, .int .i64 x0, .int .i64 0, .int .i64 0]) (by simp [results, Try.results73, go_sem]) rfl ⟨_, _, _, P.out, rfl, by go_grown⟩
  · have hb1 : (b == 0) = false := by simpa using hb0
    rcases hgx with ⟨h, hg, hd⟩ | ⟨h, hg, hd⟩
    · obtain ⟨gn, e1⟩ : ∃ t, -g0 = t := ⟨_, rfl⟩
      obtain ⟨xn, e2⟩ : ∃ t, -x0 = t := ⟨_, rfl⟩
      rw [e1] at hg hd
      rw [e2] at hd
      obtain ⟨m1, m2, m3, m4⟩ := Lw.bez_x hb0 hg hd
      have P : Hid (Lw.BezPost a b gn (xn % (Lw.absI b / gn)) ((gn - xn % (Lw.absI b / gn) * a).tdiv b)) := ⟨hg, fun e => absurd e hb0, fun _ => ⟨m2, m3, m4, rfl⟩⟩
      have hg0 : 0 < gn := by rw [hg]; exact Lw.gcdI_pos (.inr hb0)
      have hm : Lw.absI b / gn ≤ 2147483648 := by
        have := Int.ediv_le_self gn (Lw.absI_nonneg b)
        have := B.out; omega
      have hB0 := Lw.absI_nonneg b
      have hB1 : Lw.absI b ≤ 2147483648 := B.out
      obtain ⟨hp1, hp2⟩ := Lw.bez_prod m2 (by omega) A.out
      obtain ⟨y1, y2⟩ := Lw.tdiv_le (c := gn - xn % (Lw.absI b / gn) * a) (d := b) (B := 4611686027017322496) (by omega) (by omega)
      clear hg hd m4
      go_wp2_with (first | (go_at_call 70; refine (euclid_abs _ _ (by omega) (by omega)).mono ?_; rintro e w' ⟨rfl, rfl⟩) | (go_at_call 57; refine (euclid_Mod _ _ _ (by omega) (by omega)).mono ?_; rintro e w' ⟨rfl, rfl⟩))
      go_quiet (fail)
      go_wp2
      exact bodyPost_ret (v := .tuple #[.int .i64 gn, .int .i64 (xn % (Lw.absI b / gn)), .int .i64 ((gn - xn % (Lw.absI b / gn) * a).tdiv b), .int .i64 0]) (by simp [results, Try.results73, go_sem]) rfl ⟨_, _, _, P.out, rfl, below_drewN (by go_grown) _⟩
    · obtain ⟨m1, m2, m3, m4⟩ := Lw.bez_x hb0 hg hd
      have P : Hid (Lw.BezPost a b g0 (x0 % (Lw.absI b / g0)) ((g0 - x0 % (Lw.absI b / g0) * a).tdiv b)) := ⟨hg, fun e => absurd e hb0, fun _ => ⟨m2, m3, m4, rfl⟩⟩
      have hg0 : 0 < g0 := by rw [hg]; exact Lw.gcdI_pos (.inr hb0)
      have hm : Lw.absI b / g0 ≤ 2147483648 := by
        have := Int.ediv_le_self g0 (Lw.absI_nonneg b)
        have := B.out; omega
      have hB0 := Lw.absI_nonneg b
      have hB1 : Lw.absI b ≤ 2147483648 := B.out
      obtain ⟨hp1, hp2⟩ := Lw.bez_prod m2 (by omega) A.out
      obtain ⟨y1, y2⟩ := Lw.tdiv_le (c := g0 - x0 % (Lw.absI b / g0) * a) (d := b) (B := 4611686027017322496) (by omega) (by omega)
      clear hg hd m4
      go_wp2_with (first | (go_at_call 70; refine (euclid_abs _ _ (by omega) (by omega)).mono ?_; rintro e w' ⟨rfl, rfl⟩) | (go_at_call 57; refine (euclid_Mod _ _ _ (by omega) (by omega)).mono ?_; rintro e w' ⟨rfl, rfl⟩))
      go_quiet (fail)
      go_wp2
      exact bodyPost_ret (v := .tuple #[.int .i64 g0, .int .i64 (x0 % (Lw.absI b / g0)), .int .i64 ((g0 - x0 % (Lw.absI b / g0) * a).tdiv b), .int .i64 0]) (by simp [results, Try.results73, go_sem]) rfl ⟨_, _, _, P.out, rfl, below_drewN (by go_grown) _⟩
end Go.Proofs.Ytoignifimgioaaa

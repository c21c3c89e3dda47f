/- Contracts of package euclid: step, abs, far, Gcd, Inverse; and of the reference's Gcd. -/
import Derived.Test.YtlgegdmnbhoepaaPow
import Derived.Test.YtlgegdmnbhoepaaGcd
import Derived.Test.YtlgegdmnbhoepaaHelp
set_option linter.unusedVariables false
set_option linter.unusedSimpArgs false
namespace Go.Proofs.Ytlgegdmnbhoepaa
open Go.RowKit
theorem euclid_abs (x : Int) (w : World) (h1 : -4611686018427387904 ≤ x) (h2 : x ≤ 4611686018427387904) :
    Calls Try.prog 163 #[.int .i64 x] w fun e w' => e = .returned (.int .i64 (Lw.absI x)) ∧ w = w' := by
  by_cases h : 0 < x
  · have E := Lib.hid (Lw.absI_pos (a := x) (by omega))
    go_enter Try.func163, Try.ntmps163
    go_wp2
    go_ret
    rw [E.out]; exact ⟨rfl, rfl⟩
  · by_cases h0 : x = 0
    · subst h0
      have E : Hid (Lw.absI 0 = 0) := rfl
      go_enter Try.func163, Try.ntmps163
      go_wp2
      go_ret
      rw [E.out]; exact ⟨rfl, rfl⟩
    · have E := Lib.hid (Lw.absI_neg (a := x) (by omega))
      have hx : x < 0 := by omega
      clear h h0
      go_enter Try.func163, Try.ntmps163
      go_wp2
      go_ret
      rw [E.out]; exact ⟨rfl, rfl⟩
theorem ref_Abs (x : Int) (w : World) (h1 : -4611686018427387904 ≤ x) (h2 : x ≤ 4611686018427387904) :
    Calls Try.prog 121 #[.int .i64 x] w fun e w' => e = .returned (.int .i64 (Lw.absI x)) ∧ w = w' := by
  by_cases h : x < 0
  · have E := Lib.hid (Lw.absI_neg (a := x) (by omega))
    go_enter Try.func121, Try.ntmps121
    go_wp2
    go_ret
    rw [E.out]; exact ⟨rfl, rfl⟩
  · have E := Lib.hid (Lw.absI_pos (a := x) (by omega))
    go_enter Try.func121, Try.ntmps121
    go_wp2
    go_ret
    rw [E.out]; exact ⟨rfl, rfl⟩
def StepEnd (a b : Int) (w : World) (e : Ending) (w' : World) : Prop := ∃ g x, Lw.StepPost a b g x ∧ e = .returned (.tuple #[.int .i64 g, .int .i64 x]) ∧ w = w'

theorem euclid_step (a b : Int) (w : World) (a1 : Lw.absI a ≤ 4294967296) (b1 : Lw.absI b ≤ 4294967296) :
    Calls Try.prog 199 #[.int .i64 a, .int .i64 b] w (StepEnd a b w) := by
  have hs := Lib.hid (Lw.Euc.start a b)
  obtain ⟨a2, a3⟩ := Lw.absI_le a1
  obtain ⟨b2, b3⟩ := Lw.absI_le b1
  have A1 := Lib.hid a1
  have B1 := Lib.hid b1
  clear a1 b1
  go_enter Try.func199, Try.ntmps199
  go_wp2
  go_loop [0, 1, 6, 7] (fun v0 v1 v6 v7 => ∃ c d x n : Int, v0 = .int .i64 c ∧ v1 = .int .i64 d ∧ v6 = .int .i64 x ∧ v7 = .int .i64 n ∧ Hid (Lw.Euc a b c d x n)) (fun _ v1 _ _ => (intOf v1).natAbs)
  case atStart => exact ⟨a, b, 1, 0, rfl, rfl, rfl, rfl, hs⟩
  case round =>
    obtain ⟨c, d, x, n, rfl, rfl, rfl, rfl, H⟩ := hrel
    obtain ⟨⟨c1, c2⟩, ⟨d1, d2⟩, ⟨x1, x2⟩, n1, n2⟩ := H.out.facts0 A1.out B1.out
    by_cases hd : d = 0
    · subst hd
      go_wp2
      go_ret2
      exact ⟨c, x, H.out.done, rfl, rfl⟩
    · have hd0 : (d == 0) = false := by simpa using hd
      have hd1 : (d != 0) = true := by simpa using hd
      obtain ⟨⟨e1, e2⟩, ⟨f1, f2⟩, g1, g2⟩ := H.out.facts hd A1.out B1.out
      have N := Lib.hid (H.out.step hd)
      have M := Lib.hid (Lw.tdiv_rest_lt c d hd)
      clear H
      go_wp2
      go_round
      case rel => exact ⟨_, _, _, _, rfl, rfl, rfl, rfl, N⟩
      case measure =>
        have := M.out
        unfold Lw.absI at this
        simp only [intOf]
        omega
theorem euclid_Gcd (a b : Int) (w : World) (ha : Lw.farB a = false) (hb : Lw.farB b = false) :
    Calls Try.prog 162 #[.int .i64 a, .int .i64 b] w fun e w' => e = .returned (.tuple #[.int .i64 (Lw.gcdI a b), .int .i64 0]) ∧ Below w.heap.size w w' := by
  obtain ⟨a1, a2⟩ := Lw.of_farB_false ha
  obtain ⟨b1, b2⟩ := Lw.of_farB_false hb
  have A := Lib.hid (show Lw.absI a ≤ 4294967296 by unfold Lw.absI; omega)
  have B := Lib.hid (show Lw.absI b ≤ 4294967296 by unfold Lw.absI; omega)
  clear ha hb
  go_enter Try.func162, Try.ntmps162
  go_wp2_with fail
  go_in
  go_wp2_with fail
  (refine wp_loop_rounds 3 ?_; repeat any_goals (rw [rounds_succ]; go_wp2_with fail))
  refine (euclid_step _ _ _ A.out B.out).mono ?_
  rintro e w' ⟨g, x, hP, rfl, rfl⟩
  obtain ⟨g1, g2⟩ := Lw.gcd_bd hP.1 A.out B.out
  have E := Lib.hid hP.1
  clear hP
  go_wp2_with (go_at_call 163; refine (euclid_abs _ _ (by omega) (by omega)).mono ?_; rintro e w' ⟨rfl, rfl⟩)
  go_ret2
  rw [E.out]
  exact ⟨rfl, by go_grown⟩
theorem euclid_Gcd_bad (a b : Int) (w : World) (h : Lw.farB a = true ∨ Lw.farB b = true) :
    Calls Try.prog 162 #[.int .i64 a, .int .i64 b] w fun e w' => e = .returned (.tuple #[.int .i64 0, .int .i64 2]) ∧ Below w.heap.size w w' := by
  have hc : a < -2147483648 ∨ (-2147483648 ≤ a ∧ 2147483648 < a) ∨ ((-2147483648 ≤ a ∧ a ≤ 2147483648) ∧ (b < -2147483648 ∨ (-2147483648 ≤ b ∧ 2147483648 < b))) := by unfold Lw.farB at h; simp at h; omega
  clear h
  rcases hc with h | ⟨h, h'⟩ | ⟨⟨h1, h2⟩, h | ⟨h, h'⟩⟩
  all_goals
    go_enter Try.func162, Try.ntmps162
    go_wp2_with fail
    go_in
    go_wp2_with fail
    (refine wp_loop_rounds 3 ?_; repeat any_goals (rw [rounds_succ]; go_wp2_with fail))
    go_ret2
    exact ⟨rfl, by go_grown⟩
set_option maxHeartbeats 1000000 in
theorem ref_Gcd (a b : Int) (w : World) (a1 : -4294967296 ≤ a) (a2 : a ≤ 4294967296) (b1 : -4294967296 ≤ b) (b2 : b ≤ 4294967296) :
    Calls Try.prog 122 #[.int .i64 a, .int .i64 b] w fun e w' => e = .returned (.int .i64 (Lw.gcdI a b)) ∧ w = w' := by
  by_cases ha : a = 0
  · subst ha
    have E : Hid (Lw.gcdI 0 b = Lw.absI b) := Lw.gcdI_zero_left b
    have Z : Lw.absI 0 = 0 := rfl
    go_enter Try.func122, Try.ntmps122
    go_wp2_with (go_at_call 121; refine (ref_Abs _ _ (by omega) (by omega)).mono ?_; rintro e w' ⟨rfl, rfl⟩)
    go_ret
    rw [E.out]; exact ⟨rfl, rfl⟩
  · by_cases hb : b = 0
    · subst hb
      have E : Hid (Lw.gcdI a 0 = Lw.absI a) := Lw.gcdI_zero_right a
      have Z : Lw.absI 0 = 0 := rfl
      have Y : ¬ Lw.absI a = 0 := fun e => ha (Lw.absI_eq_zero e)
      clear ha
      go_enter Try.func122, Try.ntmps122
      go_wp2_with (go_at_call 121; refine (ref_Abs _ _ (by omega) (by omega)).mono ?_; rintro e w' ⟨rfl, rfl⟩)
      go_ret
      rw [E.out]; exact ⟨rfl, rfl⟩
    · have Y : 0 < Lw.absI a ∧ Lw.absI a ≤ 4294967296 ∧ 0 < Lw.absI b ∧ Lw.absI b ≤ 4294967296 := by unfold Lw.absI; omega
      have G := Lib.hid (Lw.gcdI_abs a b)
      obtain ⟨y1, y2, y3, y4⟩ := Y
      clear ha hb
      go_enter Try.func122, Try.ntmps122
      go_wp2_with (go_at_call 121; refine (ref_Abs _ _ (by omega) (by omega)).mono ?_; rintro e w' ⟨rfl, rfl⟩)
      go_loop [0, 1, 5] (fun v0 v1 v5 => ∃ c d t : Int, 0 < c ∧ c ≤ 4294967296 ∧ 0 < d ∧ d ≤ 4294967296 ∧ 0 < t ∧ t ≤ 4294967296 ∧ v0 = .int .i64 c ∧ v1 = .int .i64 d ∧ v5 = .int .i64 t ∧ Hid (Lw.gcdI c d * t = Lw.gcdI a b ∧ t * c ≤ 4294967296)) (fun v0 _ _ => (intOf v0).toNat)
      case atStart => exact ⟨_, _, _, y1, y2, y3, y4, by omega, by omega, rfl, rfl, rfl, by rw [Int.mul_one]; exact ⟨G.out, by omega⟩⟩
      case round =>
        obtain ⟨c, d, t, c1, c2, d1, d2, t1, t2, rfl, rfl, rfl, H⟩ := hrel
        by_cases hc : c % 2 = 0 ∧ d % 2 = 0
        · have e1 : (c % 2 == 0) = true := by simpa using hc.1
          have e2 : (d % 2 == 0) = true := by simpa using hc.2
          have N : Hid ((Lw.gcdI (c / 2) (d / 2) * (t * 2) = Lw.gcdI a b ∧ t * 2 * (c / 2) ≤ 4294967296) ∧ t * 2 ≤ 4294967296) := by
            obtain ⟨h1, h2⟩ := H.out
            have h3 := Lw.gcdI_two c d hc.1 hc.2
            have h4 : t * 2 * (c / 2) = t * c := by rw [Int.mul_assoc, show 2 * (c / 2) = c from by omega]
            refine ⟨⟨by rw [← h1, ← h3, Int.mul_comm t 2, Int.mul_assoc], by omega⟩, ?_⟩
            have h5 : t * 2 * 1 ≤ t * 2 * (c / 2) := Int.mul_le_mul_of_nonneg_left (by omega) (by omega)
            omega
          have q : 0 < c / 2 ∧ 0 < d / 2 := by omega
          obtain ⟨q1, q2⟩ := q
          have q3 := N.out.2
          clear hc H
          go_wp2
          go_round
          case rel => exact ⟨_, _, _, q1, by omega, q2, by omega, by omega, q3, rfl, rfl, rfl, N.out.1⟩
          case measure => simp [intOf]; omega
        · have hno : ((c % 2 == 0) = false ∧ ¬ c % 2 = 0) ∨ ((c % 2 == 0) = true ∧ (d % 2 == 0) = false) := by
            by_cases h : c % 2 = 0
            · right; exact ⟨by simpa using h, by simpa using fun e => hc ⟨h, e⟩⟩
            · left; exact ⟨by simpa using h, h⟩
          have K := Lib.hid hc
          clear hc
          rcases hno with ⟨e1, _⟩ | ⟨e1, e2⟩
          all_goals
            go_wp2
            go_loop [0, 1] (fun v0 v1 => ∃ c' d' : Int, 0 < c' ∧ c' ≤ 4294967296 ∧ 0 < d' ∧ d' ≤ 4294967296 ∧ v0 = .int .i64 c' ∧ v1 = .int .i64 d' ∧ Hid (Lw.gcdI c' d' = Lw.gcdI c d ∧ ¬ (c' % 2 = 0 ∧ d' % 2 = 0))) (fun v0 v1 => (intOf v0).toNat + (intOf v1).toNat)
            case atStart => exact ⟨_, _, c1, c2, d1, d2, rfl, rfl, rfl, K.out⟩
            case round =>
              obtain ⟨f, g, f1, f2, g1, g2, rfl, rfl, R⟩ := hrel
              clear e1
              by_cases hfg : f = g
              · subst hfg
                have E : Hid (f * t = Lw.gcdI a b) := by
                  have := R.out.1
                  rw [Lw.gcdI_self (by omega)] at this
                  rw [this]; exact H.out.1
                have B : f * t ≤ 4294967296 ∧ 0 ≤ f * t := by
                  refine ⟨?_, Int.mul_nonneg (by omega) (by omega)⟩
                  have h1 := R.out.1
                  rw [Lw.gcdI_self (by omega)] at h1
                  have h2 := Lw.gcdI_le (b := d) c1
                  have h3 : t * f ≤ t * c := Int.mul_le_mul_of_nonneg_left (by omega) (by omega)
                  have := H.out.2
                  rw [Int.mul_comm]; omega
                obtain ⟨b3, b4⟩ := B
                go_wp2
                go_ret
                rw [E.out]; exact ⟨rfl, rfl⟩
              · have n1 : (f == g) = false := by simpa using hfg
                have n2 : (f != g) = true := by simpa using hfg
                by_cases hf : f % 2 = 0
                · have m1 : (f % 2 == 0) = true := by simpa using hf
                  have N : Hid (Lw.gcdI (f / 2) g = Lw.gcdI c d ∧ ¬ (f / 2 % 2 = 0 ∧ g % 2 = 0)) := by
                    obtain ⟨h1, h2⟩ := R.out
                    exact ⟨by rw [Lw.gcdI_half f g hf (by omega)]; exact h1, by omega⟩
                  have q : 0 < f / 2 := by omega
                  clear hf R
                  go_wp2
                  go_round
                  case rel => exact ⟨_, _, q, by omega, g1, g2, rfl, rfl, N⟩
                  case measure => simp [intOf]; omega
                · have m1 : (f % 2 == 0) = false := by simpa using hf
                  by_cases hg : g % 2 = 0
                  · have m2 : (g % 2 == 0) = true := by simpa using hg
                    have N : Hid (Lw.gcdI f (g / 2) = Lw.gcdI c d ∧ ¬ (f % 2 = 0 ∧ g / 2 % 2 = 0)) := by
                      obtain ⟨h1, h2⟩ := R.out
                      exact ⟨by rw [Lw.gcdI_half' f g hf hg]; exact h1, by omega⟩
                    have q : 0 < g / 2 := by omega
                    clear hf hg R
                    go_wp2
                    go_round
                    case rel => exact ⟨_, _, f1, f2, q, by omega, rfl, rfl, N⟩
                    case measure => simp [intOf]; omega
                  · have m2 : (g % 2 == 0) = false := by simpa using hg
                    by_cases hlt : g < f
                    · have N : Hid (Lw.gcdI (f - g) g = Lw.gcdI c d ∧ ¬ ((f - g) % 2 = 0 ∧ g % 2 = 0)) := by
                        obtain ⟨h1, h2⟩ := R.out
                        exact ⟨by rw [Lw.gcdI_sub]; exact h1, by omega⟩
                      clear hf hg R
                      go_wp2
                      go_round
                      case rel => exact ⟨_, _, by omega, by omega, g1, g2, rfl, rfl, N⟩
                      case measure => simp [intOf]; omega
                    · have N : Hid (Lw.gcdI f (g - f) = Lw.gcdI c d ∧ ¬ (f % 2 = 0 ∧ (g - f) % 2 = 0)) := by
                        obtain ⟨h1, h2⟩ := R.out
                        exact ⟨by rw [Lw.gcdI_sub']; exact h1, by omega⟩
                      have hlt2 : f < g := by omega
                      clear hf hg R hfg
                      go_wp2
                      go_round
                      case rel => exact ⟨_, _, f1, f2, by omega, by omega, rfl, rfl, N⟩
                      case measure => simp [intOf]; omega
set_option maxHeartbeats 1000000 in
theorem euclid_Inverse (a m : Int) (w : World) :
    Calls Try.prog 178 #[.int .i64 a, .int .i64 m] w fun e w' => e = .returned (.tuple #[.int .i64 (Lw.invR a m), .int .i64 (Lw.invE a m)]) ∧ Below w.heap.size w w' := by
  by_cases hbad : a < -2147483648 ∨ 2147483648 < a ∨ m < 1 ∨ 1048576 < m
  · have E := Lib.hid (Lw.invE_two hbad)
    have hc : a < -2147483648 ∨ (-2147483648 ≤ a ∧ 2147483648 < a) ∨ ((-2147483648 ≤ a ∧ a ≤ 2147483648) ∧ (m < 1 ∨ (1 ≤ m ∧ 1048576 < m))) := by omega
    clear hbad
    rcases hc with h | ⟨h, h'⟩ | ⟨⟨h1, h2⟩, h | ⟨h, h'⟩⟩
    all_goals
      go_enter Try.func178, Try.ntmps178
      go_wp2_with fail
      go_in
      go_wp2_with fail
      (refine wp_loop_rounds 3 ?_; repeat any_goals (rw [rounds_succ]; go_wp2_with fail))
      go_ret2
      rw [E.out.1, E.out.2]
      exact ⟨rfl, by go_grown⟩
  · have hok : (-2147483648 ≤ a ∧ a ≤ 2147483648) ∧ 1 ≤ m ∧ m ≤ 1048576 := by omega
    obtain ⟨⟨h1, h2⟩, h3, h4⟩ := hok
    have E5 := Lib.hid (Lw.invE_five hbad)
    have E0 := Lib.hid (Lw.invE_zero hbad)
    obtain ⟨s1, s2⟩ := Lw.emod_bd a m (by omega)
    have A := Lib.hid (show Lw.absI (a % m) ≤ 4294967296 by unfold Lw.absI; omega)
    have B := Lib.hid (show Lw.absI m ≤ 4294967296 by unfold Lw.absI; omega)
    have M := Lib.hid (show Lw.absI m = m from Lw.absI_pos (by omega))
    clear hbad
    go_enter Try.func178, Try.ntmps178
    go_wp2_with fail
    go_in
    go_wp2_with fail
    (refine wp_loop_rounds 3 ?_; repeat any_goals (rw [rounds_succ]; go_wp2_with fail))
    refine (euclid_Mod _ _ _ (by omega) (by omega)).mono ?_
    rintro e w' ⟨rfl, rfl⟩
    go_wp2_with fail
    refine (euclid_step _ _ _ A.out B.out).mono ?_
    rintro e w' ⟨g, x, hP, rfl, rfl⟩
    have hg0 : 0 ≤ g := hP.2.2.2 s1 (by omega)
    have hgg : g = Lw.gcdI a m := by rw [← Lw.gcdI_emod, ← hP.1, Lw.absI_pos hg0]
    obtain ⟨x1, x2⟩ := Lw.absI_le (a := x) (b := 4294967296) (by have := hP.2.2.1; rw [M.out] at this; omega)
    by_cases hg : g = 1
    · subst hg
      have F := Lib.hid (E0.out hgg.symm)
      have G := Lib.hid (Lw.invI_of_dvd (by omega) hP.2.1)
      clear hgg hP
      go_wp2_with fail
      refine (euclid_Mod _ _ _ (by omega) (by omega)).mono ?_
      rintro e w' ⟨rfl, rfl⟩
      go_wp2_with fail
      go_ret2
      rw [F.out.1, F.out.2, G.out]
      exact ⟨rfl, by go_grown⟩
    · have F := Lib.hid (E5.out (by rw [← hgg]; exact hg))
      have hb : (g != 1) = true := by simpa using hg
      clear hgg hP hg
      go_wp2_with fail
      go_ret2
      rw [F.out.1, F.out.2]
      exact ⟨rfl, by go_grown⟩
end Go.Proofs.Ytlgegdmnbhoepaa

/- Contracts: remainders and powers, of the program and of the reference. -/
import Derived.Test.YtlgegdmnbhoepaaWk
import Derived.Test.YtlgegdmnbhoepaaBit
import Derived.Test.YtlgegdmnbhoepaaNum
set_option linter.unusedVariables false
set_option linter.unusedSimpArgs false
namespace Go.Proofs.Ytlgegdmnbhoepaa
open Go.RowKit

theorem euclid_Mod (a m : Int) (w : World) (hm : 0 < m) (hm2 : m ≤ 4294967296) :
    Calls Try.prog 61 #[.int .i64 a, .int .i64 m] w fun e w' => e = .returned (.int .i64 (a % m)) ∧ w = w' := by
  obtain ⟨h1, h2⟩ := Lw.tmod_bd a m hm
  have h0 : ((m : Int) == 0) = false := by simp; omega
  have E := Lib.hid (Lw.mod_prog a m hm)
  go_enter Try.func61, Try.ntmps61
  go_wp2
  go_ret
  rw [E.out]
  exact ⟨rfl, rfl⟩
theorem ref_Mod (a m : Int) (w : World) (hm : 0 < m) (hm2 : m ≤ 4294967296) :
    Calls Try.prog 64 #[.int .i64 a, .int .i64 m] w fun e w' => e = .returned (.int .i64 (a % m)) ∧ w = w' := by
  obtain ⟨h1, h2⟩ := Lw.tmod_bd a m hm
  have h0 : ((m : Int) == 0) = false := by simp; omega
  by_cases h : a.tmod m < 0
  · have E := Lib.hid (Lw.mod_ref_neg a m hm h)
    go_enter Try.func64, Try.ntmps64
    go_wp2
    go_ret
    rw [E.out]
    exact ⟨rfl, rfl⟩
  · have E := Lib.hid (Lw.mod_ref_pos a m hm h)
    go_enter Try.func64, Try.ntmps64
    go_wp2
    go_ret
    rw [E.out]
    exact ⟨rfl, rfl⟩
theorem ref_Pow (n : Nat) : ∀ (a k m : Int) (w : World), k.toNat ≤ n → 0 ≤ k → k ≤ 4611686018427387904 → 0 < m → m ≤ 1048576 →
    Calls Try.prog 59 #[.int .i64 a, .int .i64 k, .int .i64 m] w fun e w' => e = .returned (.int .i64 (Lw.pw a k m)) ∧ w = w' := by
  induction n with
  | zero =>
    intro a k m w h1 h2 h2' h3 h4
    obtain rfl : k = 0 := by omega
    have E := Lib.hid (Lw.pw_zero a m)
    have h0 : ((m : Int) == 0) = false := by simp; omega
    clear h1 h2 h2'
    go_enter Try.func59, Try.ntmps59
    go_wp2_with fail
    go_ret
    rw [E.out]
    exact ⟨rfl, rfl⟩
  | succ n ih =>
    intro a k m w h1 h2 h2' h3 h4
    have h0 : ((m : Int) == 0) = false := by simp; omega
    by_cases hk : k = 0
    · subst hk
      have E := Lib.hid (Lw.pw_zero a m)
      clear h1 h2 h2'
      go_enter Try.func59, Try.ntmps59
      go_wp2_with fail
      go_ret
      rw [E.out]
      exact ⟨rfl, rfl⟩
    · have hk0 : ((k : Int) == 0) = false := by simpa using hk
      have IH := Lib.hid ih
      have hk1 : 1 ≤ k := by omega
      clear ih hk
      obtain ⟨p1, p2⟩ := Lw.pw_bd a (k / 2) m h3
      obtain ⟨q1, q2⟩ := Lw.mul_bd' (Lw.pw a (k / 2) m) (Lw.pw a (k / 2) m) 1048576 p1 (by omega) p1 (by omega)
      obtain ⟨r1, r2⟩ := Lw.emod_bd (Lw.pw a (k / 2) m * Lw.pw a (k / 2) m) m h3
      obtain ⟨s1, s2⟩ := Lw.emod_bd a m h3
      obtain ⟨t1, t2⟩ := Lw.mul_bd' (Lw.pw a (k / 2) m * Lw.pw a (k / 2) m % m) (a % m) 1048576 r1 (by omega) s1 (by omega)
      by_cases ho : k % 2 = 1
      · have E := Lib.hid (Lw.pw_odd a k m h2 ho)
        have hb : (k % 2 == 1) = true := by simpa using ho
        clear ho
        go_enter Try.func59, Try.ntmps59
        go_wp2_with fail
        refine (IH.out a (k / 2) m _ (by omega) (by omega) (by omega) (by omega) (by omega)).mono ?_
        rintro e w' ⟨rfl, rfl⟩
        go_wp2_with fail
        refine (ref_Mod _ _ _ h3 (by omega)).mono ?_
        rintro e w' ⟨rfl, rfl⟩
        go_wp2_with fail
        go_ret
        rw [E.out]
        exact ⟨rfl, rfl⟩
      · have E := Lib.hid (Lw.pw_even a k m h2 ho)
        have hb : (k % 2 == 1) = false := by simpa using ho
        clear ho
        go_enter Try.func59, Try.ntmps59
        go_wp2_with fail
        refine (IH.out a (k / 2) m _ (by omega) (by omega) (by omega) (by omega) (by omega)).mono ?_
        rintro e w' ⟨rfl, rfl⟩
        go_wp2_with fail
        go_ret
        rw [E.out]
        exact ⟨rfl, rfl⟩
theorem power_Of (a k m : Int) (w : World) (hk : 0 ≤ k) (hk2 : k ≤ 4611686018427387904) (hm : 0 < m) (hm2 : m ≤ 1048576) :
    Calls Try.prog 62 #[.int .i64 a, .int .i64 k, .int .i64 m] w fun e w' => e = .returned (.int .i64 (Lw.pw a k m)) ∧ w = w' := by
  have h0 : ((m : Int) == 0) = false := by simp; omega
  obtain ⟨s1, s2⟩ := Lw.emod_bd a m hm
  go_enter Try.func62, Try.ntmps62
  go_wp2_with (go_at_call 61; refine (euclid_Mod _ _ _ hm (by omega)).mono ?_; rintro e w' ⟨rfl, rfl⟩)
  go_loop [7, 0, 1] (fun x a' k' => ∃ x1 a1 k1 : Int, 0 ≤ x1 ∧ x1 < m ∧ 0 ≤ a1 ∧ a1 < m ∧ 0 ≤ k1 ∧ k1 ≤ 4611686018427387904 ∧ x = .int .i64 x1 ∧ a' = .int .i64 a1 ∧ k' = .int .i64 k1 ∧ Hid (x1 * a1 ^ k1.toNat % m = Lw.pw a k m)) (fun _ _ k' => (intOf k').toNat)
  case atStart =>
    obtain ⟨u1, u2⟩ := Lw.emod_bd 1 m hm
    refine ⟨_, _, _, u1, u2, s1, s2, hk, hk2, rfl, rfl, rfl, ?_⟩
    show 1 % m * (a % m) ^ k.toNat % m = Lw.pw a k m
    rw [Int.mul_emod, Int.emod_emod, ← Int.mul_emod, Int.one_mul]
    exact Lw.pw_emod a k m
  case round =>
    obtain ⟨x1, a1, k1, x2, x3, a2, a3, k2, k3, rfl, rfl, rfl, H⟩ := hrel
    obtain ⟨q1, q2⟩ := Lw.mul_bd' x1 a1 1048576 x2 (by omega) a2 (by omega)
    obtain ⟨r1, r2⟩ := Lw.mul_bd' a1 a1 1048576 a2 (by omega) a2 (by omega)
    by_cases hlt : 0 < k1
    · have hand : bits .and .i64 k1 1 = k1 % 2 := Lw.and_one k1 k2 (by omega)
      by_cases ho : k1 % 2 = 1
      · have hb : (bits .and .i64 k1 1 == 1) = true := by rw [hand]; simpa using ho
        have N := Lib.hid (Lw.pw_step_odd x1 a1 k1 m hlt ho)
        clear hand ho
        go_wp2
        go_round
        case rel => exact ⟨_, _, _, (Lw.emod_bd _ m hm).1, (Lw.emod_bd _ m hm).2, (Lw.emod_bd _ m hm).1, (Lw.emod_bd _ m hm).2, by omega, by omega, rfl, rfl, rfl, N.out.trans H.out⟩
        case measure => simp [intOf]; omega
      · have hb : (bits .and .i64 k1 1 == 1) = false := by rw [hand]; simpa using ho
        have N := Lib.hid (Lw.pw_step_even x1 a1 k1 m hlt ho)
        clear hand ho
        go_wp2
        go_round
        case rel => exact ⟨_, _, _, x2, x3, (Lw.emod_bd _ m hm).1, (Lw.emod_bd _ m hm).2, by omega, by omega, rfl, rfl, rfl, N.out.trans H.out⟩
        case measure => simp [intOf]; omega
    · obtain rfl : k1 = 0 := by omega
      have E : Hid (x1 = Lw.pw a k m) := by
        have h := H.out
        simp at h
        rw [Int.emod_eq_of_lt x2 x3] at h
        exact h
      clear H
      go_wp2
      go_ret
      rw [E.out]
      exact ⟨rfl, rfl⟩
end Go.Proofs.Ytlgegdmnbhoepaa

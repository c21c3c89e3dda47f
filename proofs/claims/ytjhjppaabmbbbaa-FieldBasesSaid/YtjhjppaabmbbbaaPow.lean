/- Contracts: remainders and powers, of the program and of the reference. -/
import Derived.Test.YtjhjppaabmbbbaaWk
import Derived.Test.YtjhjppaabmbbbaaBit
import Derived.Test.YtjhjppaabmbbbaaNum
set_option linter.unusedVariables false
set_option linter.unusedSimpArgs false
namespace Go.Proofs.Ytjhjppaabmbbbaa
open Go.RowKit

theorem euclid_Mod (a m : Int) (w : World) (hm : 0 < m) (hm2 : m ≤ 4294967296) :
    Calls Try.prog 77 #[.int .i64 a, .int .i64 m] w fun e w' => e = .returned (.int .i64 (a % m)) ∧ w = w' := by
  obtain ⟨h1, h2⟩ := Lw.tmod_bd a m hm
  have h0 : ((m : Int) == 0) = false := by simp; omega
  have E := Lib.hid (Lw.mod_prog a m hm)
  go_enter Try.func77, Try.ntmps77
  go_wp2
  go_ret
  rw [E.out]
  exact ⟨rfl, rfl⟩
theorem ref_Mod (a m : Int) (w : World) (hm : 0 < m) (hm2 : m ≤ 4294967296) :
    Calls Try.prog 84 #[.int .i64 a, .int .i64 m] w fun e w' => e = .returned (.int .i64 (a % m)) ∧ w = w' := by
  obtain ⟨h1, h2⟩ := Lw.tmod_bd a m hm
  have h0 : ((m : Int) == 0) = false := by simp; omega
  by_cases h : a.tmod m < 0
  · have E := Lib.hid (Lw.mod_ref_neg a m hm h)
    go_enter Try.func84, Try.ntmps84
    go_wp2
    go_ret
    rw [E.out]
    exact ⟨rfl, rfl⟩
  · have E := Lib.hid (Lw.mod_ref_pos a m hm h)
    go_enter Try.func84, Try.ntmps84
    go_wp2
    go_ret
    rw [E.out]
    exact ⟨rfl, rfl⟩
theorem ref_Pow (n : Nat) : ∀ (a k m : Int) (w : World), k.toNat ≤ n → 0 ≤ k → k ≤ 4611686018427387904 → 0 < m → m ≤ 1048576 →
    Calls Try.prog 92 #[.int .i64 a, .int .i64 k, .int .i64 m] w fun e w' => e = .returned (.int .i64 (Lw.pw a k m)) ∧ w = w' := by
  induction n with
  | zero =>
    intro a k m w h1 h2 h2' h3 h4
    obtain rfl : k = 0 := by omega
    have E := Lib.hid (Lw.pw_zero a m)
    have h0 : ((m : Int) == 0) = false := by simp; omega
    clear h1 h2 h2'
    go_enter Try.func92, Try.ntmps92
    go_wp2_with fail
    go_ret
    rw [E.out]
    exact ⟨rfl, rfl⟩
  | succ n ih =>
    intro a k m w h1 h2 h2' h3 h4
    have h0 : ((m : Int) == 0) = false := by simp; omega
    by_cases hk : k = 0
    · subst hk
      have E := Lib.hid (Lw.pw_zero a m)
      clear h1 h2 h2'
      go_enter Try.func92, Try.ntmps92
      go_wp2_with fail
      go_ret
      rw [E.out]
      exact ⟨rfl, rfl⟩
    · have hk0 : ((k : Int) == 0) = false := by simpa using hk
      have IH := Lib.hid ih
      have hk1 : 1 ≤ k := by omega
      clear ih hk
      obtain ⟨p1, p2⟩ := Lw.pw_bd a (k / 2) m h3
      obtain ⟨q1, q2⟩ := Lw.mul_bd' (Lw.pw a (k / 2) m) (Lw.pw a (k / 2) m) 1048576 p1 (by omega) p1 (by omega)
      obtain ⟨r1, r2⟩ := Lw.emod_bd (Lw.pw a (k / 2) m * Lw.pw a (k / 2) m) m h3
      obtain ⟨s1, s2⟩ := Lw.emod_bd a m h3
      obtain ⟨t1, t2⟩ := Lw.mul_bd' (Lw.pw a (k / 2) m * Lw.pw a (k / 2) m % m) (a % m) 1048576 r1 (by omega) s1 (by omega)
      by_cases ho : k % 2 = 1
      · have E := Lib.hid (Lw.pw_odd a k m h2 ho)
        have hb : (k % 2 == 1) = true := by simpa using ho
        clear ho
        go_enter Try.func92, Try.ntmps92
        go_wp2_with fail
        refine (IH.out a (k / 2) m _ (by omega) (by omega) (by omega) (by omega) (by omega)).mono ?_
        rintro e w' ⟨rfl, rfl⟩
        go_wp2_with fail
        refine (ref_Mod _ _ _ h3 (by omega)).mono ?_
        rintro e w' ⟨rfl, rfl⟩
        go_wp2_with fail
        go_ret
        rw [E.out]
        exact ⟨rfl, rfl⟩
      · have E := Lib.hid (Lw.pw_even a k m h2 ho)
        have hb : (k % 2 == 1) = false := by simpa using ho
        clear ho
        go_enter Try.func92, Try.ntmps92
        go_wp2_with fail
        refine (IH.out a (k / 2) m _ (by omega) (by omega) (by omega) (by omega) (by omega)).mono ?_
        rintro e w' ⟨rfl, rfl⟩
        go_wp2_with fail
        go_ret
        rw [E.out]
        exact ⟨rfl, rfl⟩
end Go.Proofs.Ytjhjppaabmbbbaa

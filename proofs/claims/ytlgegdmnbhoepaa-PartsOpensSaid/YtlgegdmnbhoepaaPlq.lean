/- The reference's inverse by a prime. -/
import Derived.Test.YtlgegdmnbhoepaaPll
import Derived.Test.YtlgegdmnbhoepaaLeg
namespace Lw
open Go Go.RowKit
theorem pow_inv {p x : Int} (hp : primeB p = true) (p2 : p ≤ 1048576) (x1 : 0 < x) (x2 : x < p) {e : Int} (he : e = p - 2 ∨ (p = 2 ∧ e = 1)) : pw x e p = invR x p := by
  obtain ⟨i1, i2, i3⟩ := inv_prime hp p2 x1 x2
  have hp' : Prime p.toNat := by simpa [primeB] using hp
  have hp2 : 2 ≤ p := by have := hp'.1; omega
  have hb := pw_bd x e p (by omega)
  refine inv_unique (a := x) (m := p) hb.1 hb.2 i2 i3 ?_ i1
  unfold pw
  rcases he with rfl | ⟨rfl, rfl⟩
  · obtain ⟨q, rfl⟩ := Int.eq_ofNat_of_zero_le (by omega : 0 ≤ p)
    obtain ⟨b, rfl⟩ := Int.eq_ofNat_of_zero_le (by omega : 0 ≤ x)
    rw [Int.toNat_natCast] at hp'
    have hd : ¬ q ∣ b := fun h => by have := Nat.le_of_dvd (by omega) h; omega
    have h1 : (b : Int) ^ (q - 1) % (q : Int) = 1 % (q : Int) := emod_of_dvd_sub (fermat hp' hd)
    rw [Int.mul_emod, Int.emod_emod_of_dvd _ (Int.dvd_refl _), ← Int.mul_emod, ← Int.pow_succ]
    rw [show ((q : Int) - 2).toNat.succ = q - 1 by omega]
    exact h1
  · have : x = 1 := by omega
    subst this
    decide
end Lw
set_option linter.unusedVariables false
set_option linter.unusedSimpArgs false
namespace Go.Proofs.Ytlgegdmnbhoepaa
open Go.RowKit
theorem ref_inverse (x p : Int) (w : World) (hp : Lw.primeB p = true) (p2 : p ≤ 1048576) (x1 : 0 < x) (x2 : x < p) :
    Calls Try.prog 82 #[.int .i64 x, .int .i64 p] w fun e w' => e = .returned (.int .i64 (Lw.invR x p)) ∧ w = w' := by
  have hp1 : 2 ≤ p := by
    have hp' : Lw.Prime p.toNat := by simpa [Lw.primeB] using hp
    have := hp'.1; omega
  have p0 : ¬ p = 0 := by omega
  by_cases h : p = 2
  · subst h
    have E := Lib.hid (Lw.pow_inv hp p2 x1 x2 (e := 1) (.inr ⟨rfl, rfl⟩))
    have PW := Lib.hid (fun w => ref_Pow ((1 : Int).toNat) x 1 2 w (Nat.le_refl _) (by omega) (by omega) (by omega) (by omega))
    clear hp
    go_enter Try.func82, Try.ntmps82
    go_wp2_with (go_at_call 59; (with_reducible refine (PW.out _).mono ?_); rintro e w' ⟨rfl, rfl⟩)
    go_ret
    exact ⟨Lw.ret_int E.out, rfl⟩
  · have E := Lib.hid (Lw.pow_inv hp p2 x1 x2 (e := p - 2) (.inl rfl))
    have PW := Lib.hid (fun w => ref_Pow ((p - 2).toNat) x (p - 2) p w (Nat.le_refl _) (by omega) (by omega) (by omega) (by omega))
    have q : (2 : Int).tdiv p = 0 := by rw [Int.tdiv_eq_ediv_of_nonneg (by omega)]; exact Int.ediv_eq_zero_of_lt (by omega) (by omega)
    clear hp h
    go_enter Try.func82, Try.ntmps82
    go_wp2_with (go_at_call 59; (with_reducible refine (PW.out _).mono ?_); rintro e w' ⟨rfl, rfl⟩)
    go_ret
    exact ⟨Lw.ret_int E.out, rfl⟩
end Go.Proofs.Ytlgegdmnbhoepaa

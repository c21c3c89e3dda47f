/- Contracts of the small helpers of the statements: Far, both, modulus, first. -/
import Derived.Test.YtlgegdmnbhoepaaWk
set_option linter.unusedVariables false
set_option linter.unusedSimpArgs false
namespace Lw
def farB (x : Int) : Bool := decide (x < -2147483648) || decide (2147483648 < x)
theorem farB_true {x : Int} (h : x < -2147483648 ∨ 2147483648 < x) : farB x = true := by unfold farB; simp; omega
theorem farB_false {x : Int} (h : ¬ (x < -2147483648 ∨ 2147483648 < x)) : farB x = false := by unfold farB; simp; omega
theorem of_farB_false {x : Int} (h : farB x = false) : -2147483648 ≤ x ∧ x ≤ 2147483648 := by unfold farB at h; simp at h; omega
def bothI (a b : Int) : Int := if farB a || farB b then 2 else 0
def firstI (a b : Int) : Int := if a = 0 then b else a
theorem firstI_zero (b : Int) : firstI 0 b = b := by simp [firstI]
theorem firstI_ne (a b : Int) (h : ¬ a = 0) : firstI a b = a := by simp [firstI, h]
def modI (m : Int) : Int := if m < 1 ∨ 1048576 < m then 2 else 0
end Lw
namespace Go.Proofs.Ytlgegdmnbhoepaa
open Go.RowKit

theorem ref_Far (x : Int) (w : World) :
    Calls Try.prog 63 #[.int .i64 x] w fun e w' => e = .returned (.bool (Lw.farB x)) ∧ w = w' := by
  by_cases h1 : x < -2147483648
  · have E := Lib.hid (Lw.farB_true (.inl h1))
    go_enter Try.func63, Try.ntmps63
    go_wp2
    go_ret
    rw [E.out]; exact ⟨by simp, rfl⟩
  · have E : Hid (Lw.farB x = decide (2147483648 < x)) := by unfold Lw.farB; simp [Hid, h1]
    go_enter Try.func63, Try.ntmps63
    go_wp2
    go_ret
    rw [E.out]; exact ⟨rfl, rfl⟩
theorem law_both (a b : Int) (w : World) :
    Calls Try.prog 22 #[.int .i64 a, .int .i64 b] w fun e w' => e = .returned (.int .i64 (Lw.bothI a b)) ∧ w = w' := by
  have hE : (Lw.farB a = true ∧ Lw.bothI a b = 2) ∨ (Lw.farB a = false ∧ Lw.farB b = true ∧ Lw.bothI a b = 2) ∨ (Lw.farB a = false ∧ Lw.farB b = false ∧ Lw.bothI a b = 0) := by
    unfold Lw.bothI; cases Lw.farB a <;> cases Lw.farB b <;> simp
  rcases hE with ⟨h1, E⟩ | ⟨h1, h2, E⟩ | ⟨h1, h2, E⟩
  all_goals
    have E := Lib.hid E
    go_enter Try.func22, Try.ntmps22
    go_wp2_with (go_at_call 63; refine (ref_Far _ _).mono ?_; rintro e w' ⟨rfl, rfl⟩)
    go_ret
    rw [E.out]; exact ⟨rfl, rfl⟩
theorem law_modulus (m : Int) (w : World) :
    Calls Try.prog 26 #[.int .i64 m] w fun e w' => e = .returned (.int .i64 (Lw.modI m)) ∧ w = w' := by
  have hE : (m < 1 ∧ Lw.modI m = 2) ∨ (1 ≤ m ∧ 1048576 < m ∧ Lw.modI m = 2) ∨ (1 ≤ m ∧ m ≤ 1048576 ∧ Lw.modI m = 0) := by
    unfold Lw.modI; split <;> omega
  rcases hE with ⟨h1, E⟩ | ⟨h1, h2, E⟩ | ⟨h1, h2, E⟩
  all_goals
    have E := Lib.hid E
    go_enter Try.func26, Try.ntmps26
    go_wp2
    go_ret
    rw [E.out]; exact ⟨rfl, rfl⟩
theorem law_first (a b : Int) (w : World) :
    Calls Try.prog 21 #[.int .i64 a, .int .i64 b] w fun e w' => e = .returned (.int .i64 (Lw.firstI a b)) ∧ w = w' := by
  by_cases h : a = 0
  · subst h
    have E := Lib.hid (Lw.firstI_zero b)
    go_enter Try.func21, Try.ntmps21
    go_wp2
    go_ret
    rw [E.out]; exact ⟨rfl, rfl⟩
  · have h1 : (a != 0) = true := by simpa using h
    have E := Lib.hid (Lw.firstI_ne a b h)
    clear h
    go_enter Try.func21, Try.ntmps21
    go_wp2
    go_ret
    rw [E.out]; exact ⟨rfl, rfl⟩
end Go.Proofs.Ytlgegdmnbhoepaa

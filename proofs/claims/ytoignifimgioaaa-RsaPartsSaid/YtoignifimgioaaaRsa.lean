/- Contracts of rsa.turn and of the statements' keyCheck. -/
import Derived.Test.YtoignifimgioaaaPow
import Derived.Test.YtoignifimgioaaaHelp
namespace Lw
/-- what is wrong with a key and a number: 0 or 2 -/
def keyI (n e d x : Int) : Int := if n < 1 ∨ 1048576 < n ∨ e < 1 ∨ 2147483648 < e ∨ d < 1 ∨ 2147483648 < d ∨ x < 0 ∨ n ≤ x then 2 else 0
theorem keyI_bad {n e d x : Int} (h : ¬(1 ≤ n ∧ n ≤ 1048576 ∧ 1 ≤ e ∧ e ≤ 2147483648 ∧ 1 ≤ d ∧ d ≤ 2147483648 ∧ 0 ≤ x ∧ x < n)) : 2 = keyI n e d x := by unfold keyI; rw [if_pos (by omega)]
theorem keyI_ok {n e d x : Int} (h : (1 ≤ n ∧ n ≤ 1048576 ∧ 1 ≤ e ∧ e ≤ 2147483648 ∧ 1 ≤ d ∧ d ≤ 2147483648 ∧ 0 ≤ x ∧ x < n)) : 0 = keyI n e d x := by unfold keyI; rw [if_neg (by omega)]
/-- what turn returns -/
def turnI (n e d x y : Int) : Int := if keyI n e d x = 2 then 0 else pw x y n
theorem turnI_bad {n e d x y : Int} (h : 2 = keyI n e d x) : 0 = turnI n e d x y := by unfold turnI; rw [if_pos h.symm]
theorem turnI_ok {n e d x y : Int} (h : 0 = keyI n e d x) : pw x y n = turnI n e d x y := by unfold turnI; rw [if_neg (by omega)]
end Lw
set_option linter.unusedVariables false
set_option linter.unusedSimpArgs false
namespace Go.Proofs.Ytoignifimgioaaa
open Go.RowKit
theorem law_keyCheck (n e d x : Int) (w : World) :
    Calls Try.prog 40 #[.agg #[.int .i64 n, .int .i64 e, .int .i64 d], .int .i64 x] w fun r w' => r = .returned (.int .i64 (Lw.keyI n e d x)) ∧ Below w.heap.size w w' := by
  go_enter Try.func40, Try.ntmps40
  go_wp2
  all_goals
    go_ret
    refine ⟨Lw.ret_int ?_, by go_grown⟩
    first | exact Lw.keyI_bad (by omega) | exact Lw.keyI_ok (by omega)

set_option maxHeartbeats 2000000 in
theorem rsa_turn (n e d x y : Int) (w : World) (hy : y = e ∨ y = d) :
    Calls Try.prog 75 #[.agg #[.int .i64 n, .int .i64 e, .int .i64 d], .int .i64 x, .int .i64 y] w fun r w' => r = .returned (.tuple #[.int .i64 (Lw.turnI n e d x y), .int .i64 (Lw.keyI n e d x)]) ∧ Below w.heap.size w w' := by
  have hy' : 1 ≤ e → 1 ≤ d → 1 ≤ y := by omega
  have hy'' : e ≤ 2147483648 → d ≤ 2147483648 → y ≤ 2147483648 := by omega
  clear hy
  rcases (by omega : e < d ∨ e = d ∨ d < e) with h | rfl | h
  all_goals
    go_enter Try.func75, Try.ntmps75
    go_wp2_with (go_at_call 65; refine (power_Of _ _ _ _ (by omega) (by omega) (by omega) (by omega)).mono ?_; rintro e w' ⟨rfl, rfl⟩)
    all_goals
      go_ret2
      refine ⟨?_, by go_grown⟩
      first | exact Lw.ret_ii (Lw.turnI_bad (Lw.keyI_bad (by omega))) (Lw.keyI_bad (by omega)) | exact Lw.ret_ii (Lw.turnI_ok (Lw.keyI_ok (by omega))) (Lw.keyI_ok (by omega))
end Go.Proofs.Ytoignifimgioaaa

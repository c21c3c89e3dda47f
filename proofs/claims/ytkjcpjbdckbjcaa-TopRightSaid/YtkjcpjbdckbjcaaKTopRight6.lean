/- Contract of the reference's GroupCheck. -/
import Derived.Test.YtkjcpjbdckbjcaaKTopRight5
set_option linter.unusedVariables false
set_option linter.unusedSimpArgs false
namespace Go.Proofs.Ytkjcpjbdckbjcaa
open Go.RowKit
set_option maxHeartbeats 2000000 in
theorem ref_GroupCheck_bad (P Q G H : Int) (w : World) (h : ¬ Lw.GRange P Q G H) :
    Calls Try.prog 9 #[.agg #[.int .i64 P, .int .i64 Q, .int .i64 G, .int .i64 H]] w fun e w' => e = .returned (.int .i64 2) ∧ Below w.heap.size w w' := by
  have hc : P < 3 ∨ (3 ≤ P ∧ 1048576 < P) ∨ ((3 ≤ P ∧ P ≤ 1048576) ∧ (Q < 2 ∨ (2 ≤ Q ∧ P ≤ Q) ∨ ((2 ≤ Q ∧ Q < P) ∧ (G < 2 ∨ (2 ≤ G ∧ P ≤ G) ∨ ((2 ≤ G ∧ G < P) ∧ (H < 2 ∨ (2 ≤ H ∧ P ≤ H))))))) := by unfold Lw.GRange at h; omega
  clear h
  rcases hc with h | ⟨h, h'⟩ | ⟨⟨h1, h2⟩, h | ⟨h, h'⟩ | ⟨⟨h3, h4⟩, h | ⟨h, h'⟩ | ⟨⟨h5, h6⟩, h | ⟨h, h'⟩⟩⟩⟩
  all_goals
    go_enter Try.func9, Try.ntmps9
    go_wp2_with fail
    go_ret
    exact ⟨rfl, by go_grown⟩

set_option maxHeartbeats 4000000 in
theorem ref_GroupCheck_in (P Q G H : Int) (w : World) (h : Lw.GRange P Q G H) :
    Calls Try.prog 9 #[.agg #[.int .i64 P, .int .i64 Q, .int .i64 G, .int .i64 H]] w fun e w' => e = .returned (.int .i64 (Lw.groupE P Q G H)) ∧ Below w.heap.size w w' := by
  have E3 := Lib.hid (Lw.groupE_three h)
  have E0 := Lib.hid (Lw.groupE_zero h)
  obtain ⟨h1, h2, h3, h4, h5, h6, h7, h8⟩ := h
  have hc : (Lw.primeB P = false ∧ Hid (¬ Lw.GArg P Q G H)) ∨ (Lw.primeB P = true ∧ Lw.primeB Q = false ∧ Hid (¬ Lw.GArg P Q G H)) ∨ (Lw.primeB P = true ∧ Lw.primeB Q = true ∧ ((P - 1) % Q != 0) = true ∧ Hid (¬ Lw.GArg P Q G H)) ∨ (Lw.primeB P = true ∧ Lw.primeB Q = true ∧ ((P - 1) % Q != 0) = false ∧ (Lw.pw G Q P != 1) = true ∧ Hid (¬ Lw.GArg P Q G H)) ∨ (Lw.primeB P = true ∧ Lw.primeB Q = true ∧ ((P - 1) % Q != 0) = false ∧ (Lw.pw G Q P != 1) = false ∧ (Lw.pw H Q P != 1) = true ∧ Hid (¬ Lw.GArg P Q G H)) ∨ (Lw.primeB P = true ∧ Lw.primeB Q = true ∧ ((P - 1) % Q != 0) = false ∧ (Lw.pw G Q P != 1) = false ∧ (Lw.pw H Q P != 1) = false ∧ Hid (Lw.GArg P Q G H)) := by
    unfold Lw.GArg Hid
    cases a : Lw.primeB P <;> cases b : Lw.primeB Q <;> simp <;> by_cases c : (P - 1) % Q = 0 <;> by_cases d : Lw.pw G Q P = 1 <;> by_cases e : Lw.pw H Q P = 1 <;> simp [c, d, e]
  rcases hc with ⟨a, N⟩ | ⟨a, b, N⟩ | ⟨a, b, c, N⟩ | ⟨a, b, c, d, N⟩ | ⟨a, b, c, d, e, N⟩ | ⟨a, b, c, d, e, N⟩
  all_goals
    go_enter Try.func9, Try.ntmps9
    go_wp2_with (first | (go_at_call 19; refine (ref_Is _ _ (by omega)).mono ?_; rintro e w' ⟨rfl, rfl⟩) | (go_at_call 20; refine (ref_Pow _ _ _ _ _ (Nat.le_refl _) (by omega) (by omega) (by omega) (by omega)).mono ?_; rintro e w' ⟨rfl, rfl⟩))
    go_ret
    refine ⟨Lw.ret_int ?_, by go_grown⟩
    first | exact E3.out N.out | exact E0.out N.out
end Go.Proofs.Ytkjcpjbdckbjcaa

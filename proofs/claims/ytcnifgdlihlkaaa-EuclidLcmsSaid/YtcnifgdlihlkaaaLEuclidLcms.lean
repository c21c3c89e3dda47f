/- The law EuclidLcms: the program's least common multiple is the reference's, or the error says that a number is not in range. -/
import Derived.Test.YtcnifgdlihlkaaaLcm
set_option linter.unusedVariables false
namespace Go.Proofs.Ytcnifgdlihlkaaa.LW
open Go.RowKit
set_option maxHeartbeats 1000000 in
theorem EuclidLcms (a b : Int) (w : World) (wa : (Lit.int .i64 a).wf = true) (wb : (Lit.int .i64 b).wf = true) :
    Calls Try.prog 4 #[.int .i64 a, .int .i64 b] w fun e w' => e = .returned (.bool true) ∧ Below w.heap.size w w' := by
  clear wa wb
  have hc : ((Lw.farB a = true ∨ Lw.farB b = true) ∧ Lw.bothI a b = 2) ∨ (Lw.farB a = false ∧ Lw.farB b = false ∧ Lw.bothI a b = 0) := by
    unfold Lw.bothI; cases Lw.farB a <;> cases Lw.farB b <;> simp
  rcases hc with ⟨hb, E⟩ | ⟨h1, h2, E⟩
  · have HB := Lib.hid hb
    clear hb
    go_enter Try.func4, Try.ntmps4
    go_wp2_with (first | (go_at_call 18; refine (euclid_Lcm_bad _ _ _ HB.out).mono ?_; rintro e w1 ⟨rfl, hb1⟩; obtain ⟨hc1, hf1⟩ := Lw.bcell hb1) | (go_at_call 19; refine (law_both _ _ _).mono ?_; rintro e w' ⟨rfl, rfl⟩))
    go_ret
    exact ⟨rfl, Lw.bt (by go_grown) hb1⟩
  · obtain ⟨a1, a2⟩ := Lw.of_farB_false h1
    obtain ⟨b1, b2⟩ := Lw.of_farB_false h2
    have H1 := Lib.hid h1
    have H2 := Lib.hid h2
    clear h1 h2
    go_enter Try.func4, Try.ntmps4
    go_wp2_with (first | (go_at_call 18; refine (euclid_Lcm _ _ _ H1.out H2.out).mono ?_; rintro e w1 ⟨rfl, hb1⟩; obtain ⟨hc1, hf1⟩ := Lw.bcell hb1) | (go_at_call 19; refine (law_both _ _ _).mono ?_; rintro e w' ⟨rfl, rfl⟩) | (go_at_call 20; refine (ref_Lcm _ _ _ (by omega) (by omega) (by omega) (by omega)).mono ?_; rintro e w' ⟨rfl, n1, rfl⟩))
    go_ret
    exact ⟨by simp, below_drewN (Lw.bt (by go_grown) hb1) _⟩
end Go.Proofs.Ytcnifgdlihlkaaa.LW

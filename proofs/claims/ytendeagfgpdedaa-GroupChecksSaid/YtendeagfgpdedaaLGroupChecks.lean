/- The law GroupChecks: group.Check tells the code that the reference tells. -/
import Derived.Test.YtendeagfgpdedaaGref
import Derived.Deep.RegionWith
set_option linter.unusedVariables false
namespace Go.Proofs.Ytendeagfgpdedaa.LW
open Go.RowKit
set_option maxHeartbeats 1000000 in
theorem GroupChecks (P Q G H : Int) (w : World) (wP : (Lit.int .i64 P).wf = true) (wQ : (Lit.int .i64 Q).wf = true) (wG : (Lit.int .i64 G).wf = true) (wH : (Lit.int .i64 H).wf = true) :
    Calls Try.prog 3 #[.agg #[.int .i64 P, .int .i64 Q, .int .i64 G, .int .i64 H]] w fun e w' => e = .returned (.bool true) ∧ Below w.heap.size w w' := by
  clear wP wQ wG wH
  by_cases h : Lw.GRange P Q G H
  · have HH := Lib.hid h
    clear h
    go_enter Try.func3, Try.ntmps3
    go_wp2_with fail

    go_region_with (first | (go_at_call 15; refine (group_Check_in _ _ _ _ _ HH.out).mono ?_; rintro e w1 ⟨rfl, hb1⟩; obtain ⟨hc1, hf1⟩ := Lw.bcell hb1; have hz1_1 : w.heap.size < w1.heap.size := by have := hb1.size; (try simp at this); omega) | (go_at_call 16; refine (ref_GroupCheck_in _ _ _ _ _ HH.out).mono ?_; rintro e w2 ⟨rfl, hb2⟩; obtain ⟨hc2, hf2⟩ := Lw.bcell hb2; have hz2_1 : w.heap.size < w2.heap.size := by have := hb2.size; (try simp at this); omega))
    all_goals go_wp2
    all_goals go_ret
    all_goals exact ⟨rfl, by (repeat (refine Lw.bt ?_ (by assumption))); go_grown⟩
  · have HH := Lib.hid h
    clear h
    go_enter Try.func3, Try.ntmps3
    go_wp2_with fail
    go_region_with (first | (go_at_call 15; refine (group_Check_bad _ _ _ _ _ HH.out).mono ?_; rintro e w1 ⟨rfl, hb1⟩; obtain ⟨hc1, hf1⟩ := Lw.bcell hb1; have hz1_1 : w.heap.size < w1.heap.size := by have := hb1.size; (try simp at this); omega) | (go_at_call 16; refine (ref_GroupCheck_bad _ _ _ _ _ HH.out).mono ?_; rintro e w2 ⟨rfl, hb2⟩; obtain ⟨hc2, hf2⟩ := Lw.bcell hb2; have hz2_1 : w.heap.size < w2.heap.size := by have := hb2.size; (try simp at this); omega))
    all_goals go_wp2
    all_goals go_ret
    all_goals exact ⟨rfl, by (repeat (refine Lw.bt ?_ (by assumption))); go_grown⟩
end Go.Proofs.Ytendeagfgpdedaa.LW

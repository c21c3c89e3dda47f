/- The law GroupLocks: group.Lock is the reference's pair of powers, or the reference's code. -/
import Derived.Test.YtendeagfgpdedaaGrp2
import Derived.Laws.StructEq
set_option linter.unusedVariables false
namespace Go.Proofs.Ytendeagfgpdedaa.LW
open Go.RowKit
set_option maxHeartbeats 2000000 in
theorem GroupLocks (P Q G H x m r : Int) (w : World) (wP : (Lit.int .i64 P).wf = true) (wQ : (Lit.int .i64 Q).wf = true) (wG : (Lit.int .i64 G).wf = true) (wH : (Lit.int .i64 H).wf = true) (wx : (Lit.int .i64 x).wf = true) (wm : (Lit.int .i64 m).wf = true) (wr : (Lit.int .i64 r).wf = true) :
    Calls Try.prog 5 #[.agg #[.int .i64 P, .int .i64 Q, .int .i64 G, .int .i64 H], .int .i64 x, .int .i64 m, .int .i64 r] w fun e w' => e = .returned (.bool true) ∧ Below w.heap.size w w' := by
  clear wP wQ wG wH wx wm wr
  by_cases h : Lw.askE P Q G H [r] [x, m] = 0
  · obtain ⟨e1, e2, e3⟩ := Lw.askE_ok h
    obtain ⟨⟨h1, h2, h3, h4, h5, h6, h7, h8⟩, _⟩ := Lw.groupE_ok e1
    obtain ⟨p1, p2, _⟩ := Lw.psB_cons e2
    obtain ⟨m1, e4⟩ := Lw.msB_cons e3
    obtain ⟨m2, _⟩ := Lw.msB_cons e4
    obtain ⟨x1, x2, _⟩ := Lw.memB_bd m1
    obtain ⟨y1, y2, _⟩ := Lw.memB_bd m2
    obtain ⟨z1, z2⟩ := Lw.pw_bd x r P (by omega)
    obtain ⟨q1, q2⟩ := Lw.mul_bd' m (Lw.pw x r P) 1048576 (by omega) (by omega) z1 (by omega)
    have HE := Lib.hid h
    clear h e1 e2 e3 e4 m1 m2
    go_enter Try.func5, Try.ntmps5
    go_wp2_with (first | (go_at_call 20; refine (group_Lock_ok P Q G H x m r _ HE.out).mono ?_; rintro e w1 ⟨rfl, hb1⟩; obtain ⟨hc1, hf1⟩ := Lw.bcell hb1; have hz1 := hb1.size; (try simp at hz1); have hy1_00 : w.heap.size < w1.heap.size := (by omega); have hy1_01 : w.heap.size < w1.heap.size + 1 := (by omega); have hy1_02 : w.heap.size < w1.heap.size + 1 + 1 := (by omega)) | (go_at_call 18; refine (ref_GroupAsk' P Q G H _ [r] [x, m] HE.out _ _ _ _ _ _ _ (by first | exact Lw.Rd.nil _ _ _ | exact Lw.Rd.lit (Lw.blk_new' (by simp) _ _) rfl rfl | exact Lw.Rd.lit (Lw.blk_alloc (Lw.blk_new' (by simp) _ _) _) rfl rfl) (by first | exact Lw.Rd.nil _ _ _ | exact Lw.Rd.lit (Lw.blk_new' (by simp) _ _) rfl rfl | exact Lw.Rd.lit (Lw.blk_alloc (Lw.blk_new' (by simp) _ _) _) rfl rfl) (Lw.max_of (by omega)) (Lw.max_of (by omega))).mono ?_; rintro e w2 ⟨rfl, hb2⟩; obtain ⟨hc2, hf2⟩ := Lw.bcell hb2; have hz2 := hb2.size; (try simp at hz2); have hy2_00 : w.heap.size < w2.heap.size := (by omega); have hy2_01 : w.heap.size < w2.heap.size + 1 := (by omega); have hy2_02 : w.heap.size < w2.heap.size + 1 + 1 := (by omega); have hy2_10 : w.heap.size + 1 < w2.heap.size := (by omega); have hy2_11 : w.heap.size + 1 < w2.heap.size + 1 := (by omega); have hy2_12 : w.heap.size + 1 < w2.heap.size + 1 + 1 := (by omega)))
    have W1 : IntKind.i64.wrap (m * Lw.pw x r P) = m * Lw.pw x r P := IntWalk.i64_in _ (by omega)
    have W2 : (m * Lw.pw x r P).tmod P = m * Lw.pw x r P % P := Int.tmod_eq_emod_of_nonneg q1
    have hP0 : ¬ P = 0 := by omega
    go_quiet ((go_at_call 19; exact Lw.quiet (ref_Pow _ _ _ _ _ (Nat.le_refl _) (by omega) (by omega) (by omega) (by omega))))
    go_wp2
    go_ret
    exact ⟨by simp, by (repeat (first | exact Below.refl _ _ | refine Lw.bt ?_ (by assumption) | refine Lw.balloc ?_ _ | refine Lw.bdrewN ?_ _ | refine Below.drew ?_ | refine Lw.bset ?_ (by first | (simp; done) | (simp; omega) | omega) _))⟩
  · obtain ⟨E, hE⟩ : ∃ E, Lw.askE P Q G H [r] [x, m] = E := ⟨_, rfl⟩
    have hn : (E != 0) = true := by rw [← hE]; simpa using h
    have HE := Lib.hid hE
    clear h hE
    go_enter Try.func5, Try.ntmps5
    go_wp2_with (first | (go_at_call 20; refine (group_Lock_bad P Q G H x m r E _ HE.out hn).mono ?_; rintro e w1 ⟨rfl, hb1⟩; obtain ⟨hc1, hf1⟩ := Lw.bcell hb1; have hz1 := hb1.size; (try simp at hz1); have hy1_00 : w.heap.size < w1.heap.size := (by omega); have hy1_01 : w.heap.size < w1.heap.size + 1 := (by omega); have hy1_02 : w.heap.size < w1.heap.size + 1 + 1 := (by omega)) | (go_at_call 18; refine (ref_GroupAsk' P Q G H _ [r] [x, m] HE.out _ _ _ _ _ _ _ (by first | exact Lw.Rd.nil _ _ _ | exact Lw.Rd.lit (Lw.blk_new' (by simp) _ _) rfl rfl | exact Lw.Rd.lit (Lw.blk_alloc (Lw.blk_new' (by simp) _ _) _) rfl rfl) (by first | exact Lw.Rd.nil _ _ _ | exact Lw.Rd.lit (Lw.blk_new' (by simp) _ _) rfl rfl | exact Lw.Rd.lit (Lw.blk_alloc (Lw.blk_new' (by simp) _ _) _) rfl rfl) (Lw.max_of (by omega)) (Lw.max_of (by omega))).mono ?_; rintro e w2 ⟨rfl, hb2⟩; obtain ⟨hc2, hf2⟩ := Lw.bcell hb2; have hz2 := hb2.size; (try simp at hz2); have hy2_00 : w.heap.size < w2.heap.size := (by omega); have hy2_01 : w.heap.size < w2.heap.size + 1 := (by omega); have hy2_02 : w.heap.size < w2.heap.size + 1 + 1 := (by omega); have hy2_10 : w.heap.size + 1 < w2.heap.size := (by omega); have hy2_11 : w.heap.size + 1 < w2.heap.size + 1 := (by omega); have hy2_12 : w.heap.size + 1 < w2.heap.size + 1 + 1 := (by omega)))
    go_ret
    exact ⟨by simp, by (repeat (first | exact Below.refl _ _ | refine Lw.bt ?_ (by assumption) | refine Lw.balloc ?_ _ | refine Lw.bdrewN ?_ _ | refine Below.drew ?_ | refine Lw.bset ?_ (by first | (simp; done) | (simp; omega) | omega) _))⟩
end Go.Proofs.Ytendeagfgpdedaa.LW

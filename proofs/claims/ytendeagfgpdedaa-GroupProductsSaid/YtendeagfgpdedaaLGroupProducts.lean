/- The law GroupProducts: group.Mul is the pair of products, or the reference's code. -/
import Derived.Test.YtendeagfgpdedaaGrp2
import Derived.Laws.StructEq
set_option linter.unusedVariables false
namespace Go.Proofs.Ytendeagfgpdedaa.LW
open Go.RowKit
set_option maxHeartbeats 2000000 in
theorem GroupProducts (P Q G H A B C D : Int) (w : World) (wP : (Lit.int .i64 P).wf = true) (wQ : (Lit.int .i64 Q).wf = true) (wG : (Lit.int .i64 G).wf = true) (wH : (Lit.int .i64 H).wf = true) (wA : (Lit.int .i64 A).wf = true) (wB : (Lit.int .i64 B).wf = true) (wC : (Lit.int .i64 C).wf = true) (wD : (Lit.int .i64 D).wf = true) :
    Calls Try.prog 7 #[.agg #[.int .i64 P, .int .i64 Q, .int .i64 G, .int .i64 H], .agg #[.int .i64 A, .int .i64 B], .agg #[.int .i64 C, .int .i64 D]] w fun e w' => e = .returned (.bool true) ∧ Below w.heap.size w w' := by
  clear wP wQ wG wH wA wB wC wD
  by_cases h : Lw.askE P Q G H [] [A, B, C, D] = 0
  · obtain ⟨e1, e2, e3⟩ := Lw.askE_ok h
    obtain ⟨⟨h1, h2, h3, h4, h5, h6, h7, h8⟩, _⟩ := Lw.groupE_ok e1
    obtain ⟨m1, e4⟩ := Lw.msB_cons e3
    obtain ⟨m2, e5⟩ := Lw.msB_cons e4
    obtain ⟨m3, e6⟩ := Lw.msB_cons e5
    obtain ⟨m4, _⟩ := Lw.msB_cons e6
    obtain ⟨x1, x2, _⟩ := Lw.memB_bd m1
    obtain ⟨y1, y2, _⟩ := Lw.memB_bd m2
    obtain ⟨u1, u2, _⟩ := Lw.memB_bd m3
    obtain ⟨v1, v2, _⟩ := Lw.memB_bd m4
    obtain ⟨q1, q2⟩ := Lw.mul_bd' A C 1048576 (by omega) (by omega) (by omega) (by omega)
    obtain ⟨q3, q4⟩ := Lw.mul_bd' B D 1048576 (by omega) (by omega) (by omega) (by omega)
    have HE := Lib.hid h
    clear h e1 e2 e3 e4 e5 e6 m1 m2 m3 m4
    go_enter Try.func7, Try.ntmps7
    go_wp2_with (first | (go_at_call 23; refine (group_Mul_ok P Q G H A B C D _ HE.out).mono ?_; rintro e w1 ⟨rfl, hb1⟩; obtain ⟨hc1, hf1⟩ := Lw.bcell hb1; have hz1 := hb1.size; (try simp at hz1); have hy1_00 : w.heap.size < w1.heap.size := (by omega); have hy1_01 : w.heap.size < w1.heap.size + 1 := (by omega); have hy1_02 : w.heap.size < w1.heap.size + 1 + 1 := (by omega); have hy1_10 : w.heap.size + 1 < w1.heap.size := (by omega); have hy1_11 : w.heap.size + 1 < w1.heap.size + 1 := (by omega); have hy1_12 : w.heap.size + 1 < w1.heap.size + 1 + 1 := (by omega); have hy1_20 : w.heap.size + 1 + 1 < w1.heap.size := (by omega); have hy1_21 : w.heap.size + 1 + 1 < w1.heap.size + 1 := (by omega); have hy1_22 : w.heap.size + 1 + 1 < w1.heap.size + 1 + 1 := (by omega)) | (go_at_call 18; refine (ref_GroupAsk' P Q G H _ [] [A, B, C, D] HE.out _ _ _ _ _ _ _ (by first | exact Lw.Rd.nil _ _ _ | exact Lw.Rd.lit (Lw.blk_new' (by simp) _ _) rfl rfl | exact Lw.Rd.lit (Lw.blk_alloc (Lw.blk_new' (by simp) _ _) _) rfl rfl) (by first | exact Lw.Rd.nil _ _ _ | exact Lw.Rd.lit (Lw.blk_new' (by simp) _ _) rfl rfl | exact Lw.Rd.lit (Lw.blk_alloc (Lw.blk_new' (by simp) _ _) _) rfl rfl) (Lw.max_of (by omega)) (Lw.max_of (by omega))).mono ?_; rintro e w2 ⟨rfl, hb2⟩; obtain ⟨hc2, hf2⟩ := Lw.bcell hb2; have hz2 := hb2.size; (try simp at hz2); have hy2_00 : w.heap.size < w2.heap.size := (by omega); have hy2_01 : w.heap.size < w2.heap.size + 1 := (by omega); have hy2_02 : w.heap.size < w2.heap.size + 1 + 1 := (by omega); have hy2_10 : w.heap.size + 1 < w2.heap.size := (by omega); have hy2_11 : w.heap.size + 1 < w2.heap.size + 1 := (by omega); have hy2_12 : w.heap.size + 1 < w2.heap.size + 1 + 1 := (by omega); have hy2_20 : w.heap.size + 1 + 1 < w2.heap.size := (by omega); have hy2_21 : w.heap.size + 1 + 1 < w2.heap.size + 1 := (by omega); have hy2_22 : w.heap.size + 1 + 1 < w2.heap.size + 1 + 1 := (by omega)))
    have W1 : IntKind.i64.wrap (A * C) = A * C := IntWalk.i64_in _ (by omega)
    have W2 : (A * C).tmod P = A * C % P := Int.tmod_eq_emod_of_nonneg q1
    have W3 : IntKind.i64.wrap (B * D) = B * D := IntWalk.i64_in _ (by omega)
    have W4 : (B * D).tmod P = B * D % P := Int.tmod_eq_emod_of_nonneg q3
    have hP0 : ¬ P = 0 := by omega
    go_quiet (fail)
    go_wp2
    go_ret
    exact ⟨by simp, by (repeat (first | exact Below.refl _ _ | refine Lw.bt ?_ (by assumption) | refine Lw.balloc ?_ _ | refine Lw.bdrewN ?_ _ | refine Below.drew ?_ | refine Lw.bset ?_ (by first | (simp; done) | (simp; omega) | omega) _))⟩
  · obtain ⟨E, hE⟩ : ∃ E, Lw.askE P Q G H [] [A, B, C, D] = E := ⟨_, rfl⟩
    have hn : (E != 0) = true := by rw [← hE]; simpa using h
    have HE := Lib.hid hE
    clear h hE
    go_enter Try.func7, Try.ntmps7
    go_wp2_with (first | (go_at_call 23; refine (group_Mul_bad P Q G H A B C D E _ HE.out hn).mono ?_; rintro e w1 ⟨rfl, hb1⟩; obtain ⟨hc1, hf1⟩ := Lw.bcell hb1; have hz1 := hb1.size; (try simp at hz1); have hy1_00 : w.heap.size < w1.heap.size := (by omega); have hy1_01 : w.heap.size < w1.heap.size + 1 := (by omega); have hy1_02 : w.heap.size < w1.heap.size + 1 + 1 := (by omega); have hy1_10 : w.heap.size + 1 < w1.heap.size := (by omega); have hy1_11 : w.heap.size + 1 < w1.heap.size + 1 := (by omega); have hy1_12 : w.heap.size + 1 < w1.heap.size + 1 + 1 := (by omega); have hy1_20 : w.heap.size + 1 + 1 < w1.heap.size := (by omega); have hy1_21 : w.heap.size + 1 + 1 < w1.heap.size + 1 := (by omega); have hy1_22 : w.heap.size + 1 + 1 < w1.heap.size + 1 + 1 := (by omega)) | (go_at_call 18; refine (ref_GroupAsk' P Q G H _ [] [A, B, C, D] HE.out _ _ _ _ _ _ _ (by first | exact Lw.Rd.nil _ _ _ | exact Lw.Rd.lit (Lw.blk_new' (by simp) _ _) rfl rfl | exact Lw.Rd.lit (Lw.blk_alloc (Lw.blk_new' (by simp) _ _) _) rfl rfl) (by first | exact Lw.Rd.nil _ _ _ | exact Lw.Rd.lit (Lw.blk_new' (by simp) _ _) rfl rfl | exact Lw.Rd.lit (Lw.blk_alloc (Lw.blk_new' (by simp) _ _) _) rfl rfl) (Lw.max_of (by omega)) (Lw.max_of (by omega))).mono ?_; rintro e w2 ⟨rfl, hb2⟩; obtain ⟨hc2, hf2⟩ := Lw.bcell hb2; have hz2 := hb2.size; (try simp at hz2); have hy2_00 : w.heap.size < w2.heap.size := (by omega); have hy2_01 : w.heap.size < w2.heap.size + 1 := (by omega); have hy2_02 : w.heap.size < w2.heap.size + 1 + 1 := (by omega); have hy2_10 : w.heap.size + 1 < w2.heap.size := (by omega); have hy2_11 : w.heap.size + 1 < w2.heap.size + 1 := (by omega); have hy2_12 : w.heap.size + 1 < w2.heap.size + 1 + 1 := (by omega); have hy2_20 : w.heap.size + 1 + 1 < w2.heap.size := (by omega); have hy2_21 : w.heap.size + 1 + 1 < w2.heap.size + 1 := (by omega); have hy2_22 : w.heap.size + 1 + 1 < w2.heap.size + 1 + 1 := (by omega)))
    go_ret
    exact ⟨by simp, by (repeat (first | exact Below.refl _ _ | refine Lw.bt ?_ (by assumption) | refine Lw.balloc ?_ _ | refine Lw.bdrewN ?_ _ | refine Below.drew ?_ | refine Lw.bset ?_ (by first | (simp; done) | (simp; omega) | omega) _))⟩
end Go.Proofs.Ytendeagfgpdedaa.LW

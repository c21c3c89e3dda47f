/- The law GroupUnlocks: what group.Open tells is a member whose product with the power is the message, or the reference's code. -/
import Derived.Test.YtendeagfgpdedaaGrp2
import Derived.Test.YtendeagfgpdedaaMem
import Derived.Test.YtendeagfgpdedaaSl2
import Derived.Deep.RegionHeld3
set_option linter.unusedVariables false
namespace Lw
theorem unlock {P Q G H a A B : Int} (h : askE P Q G H [a] [A, B] = 0) : memB P Q (B * pw A (Q - a) P % P) = true ∧ B * pw A (Q - a) P % P * pw A a P % P = B := by
  obtain ⟨e1, e2, e3⟩ := askE_ok h
  obtain ⟨⟨h1, h2, h3, h4, h5, h6, h7, h8⟩, _⟩ := groupE_ok e1
  obtain ⟨p1, p2, _⟩ := psB_cons e2
  obtain ⟨m1, e4⟩ := msB_cons e3
  obtain ⟨m2, _⟩ := msB_cons e4
  obtain ⟨x1, x2, x3⟩ := memB_bd m1
  obtain ⟨y1, y2, y3⟩ := memB_bd m2
  have hP : 1 < P := by omega
  have hQ : 0 < Q := by omega
  have g1 : pw A (Q - a) P = gp P Q A (Q - a) := gp_of hP hQ x3 (by omega)
  have g2 : gp P Q A (Q - a) = gp P Q A (-a) := gp_congr A (by rw [show Q - a = -a + Q by omega, Int.add_emod_right])
  have g3 : pw A a P = gp P Q A a := gp_of hP hQ x3 p1
  rw [g1, g2, g3]
  refine ⟨?_, gp_cancel hP hQ x3 a (by omega) y2⟩
  have hm := mem_mul hP y3 (gp_mem hP hQ x3 (-a))
  have hb := emod_bd (B * gp P Q A (-a)) P (by omega)
  rw [memB_in ⟨mem_pos hP hQ hb.1 hm, hb.2⟩, hm]; rfl
end Lw
namespace Go.Proofs.Ytendeagfgpdedaa.LW
open Go.RowKit
set_option maxHeartbeats 20000000 in
theorem GroupUnlocks (P Q G H a A B : Int) (w : World) (wP : (Lit.int .i64 P).wf = true) (wQ : (Lit.int .i64 Q).wf = true) (wG : (Lit.int .i64 G).wf = true) (wH : (Lit.int .i64 H).wf = true) (wa : (Lit.int .i64 a).wf = true) (wA : (Lit.int .i64 A).wf = true) (wB : (Lit.int .i64 B).wf = true) :
    Calls Try.prog 6 #[.agg #[.int .i64 P, .int .i64 Q, .int .i64 G, .int .i64 H], .int .i64 a, .agg #[.int .i64 A, .int .i64 B]] w fun e w' => e = .returned (.bool true) ∧ Below w.heap.size w w' := by
  clear wP wQ wG wH wa wA wB
  by_cases h : Lw.askE P Q G H [a] [A, B] = 0
  · obtain ⟨u1, u2⟩ := Lw.unlock h
    obtain ⟨e1, e2, e3⟩ := Lw.askE_ok h
    obtain ⟨⟨h1, h2, h3, h4, h5, h6, h7, h8⟩, _⟩ := Lw.groupE_ok e1
    obtain ⟨p1, p2, _⟩ := Lw.psB_cons e2
    have C := fun (w : World) => group_Open_ok P Q G H a A B w h
    obtain ⟨b1, b2⟩ := Lw.emod_bd (B * Lw.pw A (Q - a) P) P (by omega)
    obtain ⟨z1, z2⟩ := Lw.pw_bd A a P (by omega)
    generalize B * Lw.pw A (Q - a) P % P = o at u1 u2 C b1 b2
    obtain ⟨q1, q2⟩ := Lw.mul_bd' o (Lw.pw A a P) 1048576 b1 (by omega) z1 (by omega)
    have C := Lib.hid C
    have U2 := Lib.hid u2
    have HE := Lib.hid h
    clear h e1 e2 e3 u2
    go_enter Try.func6, Try.ntmps6
    go_wp2_with (first | (go_at_call 21; (with_reducible refine (C.out _).mono ?_); rintro e w1 ⟨rfl, hb1⟩; obtain ⟨hc1, hf1⟩ := Lw.bcell hb1; have hz1 := hb1.size; (try simp at hz1); have hy1_00 : w.heap.size < w1.heap.size := (by omega); have hy1_01 : w.heap.size < w1.heap.size + 1 := (by omega); have hy1_02 : w.heap.size < w1.heap.size + 1 + 1 := (by omega); have hy1_10 : w.heap.size + 1 < w1.heap.size := (by omega); have hy1_11 : w.heap.size + 1 < w1.heap.size + 1 := (by omega); have hy1_12 : w.heap.size + 1 < w1.heap.size + 1 + 1 := (by omega)) | (go_at_call 18; refine (ref_GroupAsk' P Q G H _ [a] [A, B] HE.out _ _ _ _ _ _ _ (by first | exact Lw.Rd.nil _ _ _ | exact Lw.Rd.lit (Lw.blk_new' (by simp) _ _) rfl rfl | exact Lw.Rd.lit (Lw.blk_alloc (Lw.blk_new' (by simp) _ _) _) rfl rfl) (by first | exact Lw.Rd.nil _ _ _ | exact Lw.Rd.lit (Lw.blk_new' (by simp) _ _) rfl rfl | exact Lw.Rd.lit (Lw.blk_alloc (Lw.blk_new' (by simp) _ _) _) rfl rfl) (Lw.max_of (by omega)) (Lw.max_of (by omega))).mono ?_; rintro e w2 ⟨rfl, hb2⟩; obtain ⟨hc2, hf2⟩ := Lw.bcell hb2; have hz2 := hb2.size; (try simp at hz2); have hy2_00 : w.heap.size < w2.heap.size := (by omega); have hy2_01 : w.heap.size < w2.heap.size + 1 := (by omega); have hy2_02 : w.heap.size < w2.heap.size + 1 + 1 := (by omega); have hy2_10 : w.heap.size + 1 < w2.heap.size := (by omega); have hy2_11 : w.heap.size + 1 < w2.heap.size + 1 := (by omega); have hy2_12 : w.heap.size + 1 < w2.heap.size + 1 + 1 := (by omega)))
    have W1 : IntKind.i64.wrap (o * Lw.pw A a P) = o * Lw.pw A a P := IntWalk.i64_in _ (by omega)
    have W2 : (o * Lw.pw A a P).tmod P = B := (Int.tmod_eq_emod_of_nonneg q1).trans U2.out
    have hP0 : ¬ P = 0 := by omega
    have B0 : w2.heap[w.heap.size]? = some (.cells #[.int .i64 P, .int .i64 Q, .int .i64 G, .int .i64 H] 23 (0, 0)) := by
      rw [hb2.block _ (by simp; omega)]
      (repeat refine Lw.blk_alloc ?_ _)
      rw [hb1.block _ (by first | (simp; done) | (simp; omega))]
      (repeat (first | exact Lw.blk_new _ _ _ | refine Lw.blk_alloc ?_ _))
    have B0 := Lib.hid B0
    have k0_0 := Lw.blk_cell B0.out 0; have k0_1 := Lw.blk_cell B0.out 1; have k0_2 := Lw.blk_cell B0.out 2; have k0_3 := Lw.blk_cell B0.out 3
    simp at k0_0 k0_1 k0_2 k0_3
    have B1 : w2.heap[w.heap.size + 1]? = some (.cells #[.int .i64 A, .int .i64 B] 34 (0, 0)) := by
      rw [hb2.block _ (by simp; omega)]
      (repeat refine Lw.blk_alloc ?_ _)
      rw [hb1.block _ (by simp)]
      exact Lw.blk_new' (by simp) _ _
    have B1 := Lib.hid B1
    have l0 := Lw.blk_cell B1.out 0; have l1 := Lw.blk_cell B1.out 1
    simp at l0 l1
    have hl2 : w.heap.size < w2.heap.size := by omega
    have hl3 : w.heap.size + 1 < w2.heap.size := by omega
    have hB2 : Below w.heap.size w w2.drew := by (repeat (first | exact Below.refl _ _ | refine Lw.bt ?_ (by assumption) | refine Lw.balloc ?_ _ | refine Lw.bdrewN ?_ _ | refine Below.drew ?_ | refine Lw.bset ?_ (by first | (simp; done) | (simp; omega) | omega) _))
    clear hc2 hf2 hc1 hf1 hy1_00 hy1_01 hy1_02 hy1_10 hy1_11 hy1_12 hy2_00 hy2_01 hy2_02 hy2_10 hy2_11 hy2_12 hb1 hb2 hz1 hz2 B0 B1
    first
    | go_region_held3 (fun w' => w'.cell? ⟨w.heap.size, 0, none⟩ = some (.int .i64 P) ∧ w'.cell? ⟨w.heap.size, 1, none⟩ = some (.int .i64 Q) ∧ w'.cell? ⟨w.heap.size, 2, none⟩ = some (.int .i64 G) ∧ w'.cell? ⟨w.heap.size, 3, none⟩ = some (.int .i64 H) ∧ w'.cell? ⟨w.heap.size + 1, 0, none⟩ = some (.int .i64 A) ∧ w'.cell? ⟨w.heap.size + 1, 1, none⟩ = some (.int .i64 B) ∧ w.heap.size < w'.heap.size ∧ w.heap.size + 1 < w'.heap.size ∧ Below w.heap.size w w') (first | (refine ⟨?_, ?_, ?_, ?_, ?_, ?_, ?_, ?_, ?_⟩ <;> assumption) | (go_split_ands; refine ⟨?_, ?_, ?_, ?_, ?_, ?_, ?_, ?_, ?_⟩ <;> assumption) | (go_split_ands; exact Lw.gs_keep6 (by assumption) (by assumption) (by assumption) (by assumption) (by assumption) (by assumption) (by assumption) (by assumption) (by assumption) hbx) | go_keep) (first | (go_at_call 22; (with_reducible refine (ref_Member P Q G H _ _ (by omega) (by omega) (by omega) (by omega)).mono ?_); rintro e wx ⟨rfl, hbx⟩) | (go_at_call 19; (with_reducible refine (ref_Pow _ _ _ _ _ (Nat.le_refl _) (by omega) (by omega) (by omega) (by omega)).mono ?_); rintro e wx ⟨rfl, rfl⟩))
    | fail
    all_goals go_wp2
    all_goals go_ret
    all_goals exact ⟨by simp, by (repeat (first | exact Below.refl _ _ | refine Lw.bt ?_ (by assumption) | refine Lw.balloc ?_ _ | refine Lw.bdrewN ?_ _ | refine Below.drew ?_ | refine Lw.bset ?_ (by first | (simp; done) | (simp; omega) | omega) _))⟩
  · obtain ⟨E, hE⟩ : ∃ E, Lw.askE P Q G H [a] [A, B] = E := ⟨_, rfl⟩
    have hn : (E != 0) = true := by rw [← hE]; simpa using h
    have HE := Lib.hid hE
    clear h hE
    go_enter Try.func6, Try.ntmps6
    go_wp2_with (first | (go_at_call 21; (with_reducible refine (group_Open_bad P Q G H a A B E _ HE.out hn).mono ?_); rintro e w1 ⟨rfl, hb1⟩; obtain ⟨hc1, hf1⟩ := Lw.bcell hb1; have hz1 := hb1.size; (try simp at hz1); have hy1_00 : w.heap.size < w1.heap.size := (by omega); have hy1_01 : w.heap.size < w1.heap.size + 1 := (by omega); have hy1_02 : w.heap.size < w1.heap.size + 1 + 1 := (by omega); have hy1_10 : w.heap.size + 1 < w1.heap.size := (by omega); have hy1_11 : w.heap.size + 1 < w1.heap.size + 1 := (by omega); have hy1_12 : w.heap.size + 1 < w1.heap.size + 1 + 1 := (by omega)) | (go_at_call 18; refine (ref_GroupAsk' P Q G H _ [a] [A, B] HE.out _ _ _ _ _ _ _ (by first | exact Lw.Rd.nil _ _ _ | exact Lw.Rd.lit (Lw.blk_new' (by simp) _ _) rfl rfl | exact Lw.Rd.lit (Lw.blk_alloc (Lw.blk_new' (by simp) _ _) _) rfl rfl) (by first | exact Lw.Rd.nil _ _ _ | exact Lw.Rd.lit (Lw.blk_new' (by simp) _ _) rfl rfl | exact Lw.Rd.lit (Lw.blk_alloc (Lw.blk_new' (by simp) _ _) _) rfl rfl) (Lw.max_of (by omega)) (Lw.max_of (by omega))).mono ?_; rintro e w2 ⟨rfl, hb2⟩; obtain ⟨hc2, hf2⟩ := Lw.bcell hb2; have hz2 := hb2.size; (try simp at hz2); have hy2_00 : w.heap.size < w2.heap.size := (by omega); have hy2_01 : w.heap.size < w2.heap.size + 1 := (by omega); have hy2_02 : w.heap.size < w2.heap.size + 1 + 1 := (by omega); have hy2_10 : w.heap.size + 1 < w2.heap.size := (by omega); have hy2_11 : w.heap.size + 1 < w2.heap.size + 1 := (by omega); have hy2_12 : w.heap.size + 1 < w2.heap.size + 1 + 1 := (by omega)))
    go_ret
    exact ⟨by simp, by (repeat (first | exact Below.refl _ _ | refine Lw.bt ?_ (by assumption) | refine Lw.balloc ?_ _ | refine Lw.bdrewN ?_ _ | refine Below.drew ?_ | refine Lw.bset ?_ (by first | (simp; done) | (simp; omega) | omega) _))⟩
end Go.Proofs.Ytendeagfgpdedaa.LW

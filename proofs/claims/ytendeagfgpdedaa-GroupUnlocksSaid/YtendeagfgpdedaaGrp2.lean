/- Contracts of group.Lock, group.Open and group.Mul. -/
import Derived.Test.YtendeagfgpdedaaAsk
import Derived.Deep.RegionWith
import Derived.IntWalk
import Derived.StillTailTactics
set_option linter.unusedVariables false
set_option linter.unusedSimpArgs false
namespace Go.Proofs.Ytendeagfgpdedaa
open Go.RowKit
set_option maxHeartbeats 1000000 in
theorem group_Lock_bad (P Q G H x m r E : Int) (w : World) (hE : Lw.askE P Q G H [r] [x, m] = E) (hn : (E != 0) = true) :
    Calls Try.prog 20 #[.agg #[.int .i64 P, .int .i64 Q, .int .i64 G, .int .i64 H], .int .i64 x, .int .i64 m, .int .i64 r] w fun e w' => e = .returned (.tuple #[.agg #[.int .i64 0, .int .i64 0], .int .i64 E]) ∧ Below w.heap.size w w' := by
  have HE := Lib.hid hE
  clear hE
  go_enter Try.func20, Try.ntmps20
  go_wp2_with (go_at_call 38; refine (group_wrong' P Q G H _ [r] [x, m] HE.out _ _ _ _ _ _ _ (by first | exact Lw.Rd.nil _ _ _ | exact Lw.Rd.lit (Lw.blk_new' (by simp) _ _) rfl rfl | exact Lw.Rd.lit (Lw.blk_alloc (Lw.blk_new' (by simp) _ _) _) rfl rfl) (by first | exact Lw.Rd.nil _ _ _ | exact Lw.Rd.lit (Lw.blk_new' (by simp) _ _) rfl rfl | exact Lw.Rd.lit (Lw.blk_alloc (Lw.blk_new' (by simp) _ _) _) rfl rfl) (Lw.max_of (by omega)) (Lw.max_of (by omega))).mono ?_; rintro e w1 ⟨rfl, hb1⟩; obtain ⟨hc1, hf1⟩ := Lw.bcell hb1; have hz1 := hb1.size; (try simp at hz1); have hy1_00 : w.heap.size < w1.heap.size := (by omega); have hy1_01 : w.heap.size < w1.heap.size + 1 := (by omega); have hy1_02 : w.heap.size < w1.heap.size + 1 + 1 := (by omega); have hy1_10 : w.heap.size + 1 < w1.heap.size := (by omega); have hy1_11 : w.heap.size + 1 < w1.heap.size + 1 := (by omega); have hy1_12 : w.heap.size + 1 < w1.heap.size + 1 + 1 := (by omega))
  refine bodyPost_ret (v := .tuple #[.agg #[.int .i64 0, .int .i64 0], .int .i64 E]) (by simp [results, Try.results20, go_sem, hc1, hy1_10]) rfl ⟨rfl, ?_⟩
  (repeat (first | exact Below.refl _ _ | refine Lw.bt ?_ (by assumption) | refine Lw.balloc ?_ _ | refine Lw.bdrewN ?_ _ | refine Below.drew ?_ | refine Lw.bset ?_ (by first | (simp; done) | (simp; omega) | omega) _))
set_option maxHeartbeats 1000000 in
theorem group_Lock_ok (P Q G H x m r : Int) (w : World) (hE : Lw.askE P Q G H [r] [x, m] = 0) :
    Calls Try.prog 20 #[.agg #[.int .i64 P, .int .i64 Q, .int .i64 G, .int .i64 H], .int .i64 x, .int .i64 m, .int .i64 r] w fun e w' => e = .returned (.tuple #[.agg #[.int .i64 (Lw.pw G r P), .int .i64 (m * Lw.pw x r P % P)], .int .i64 0]) ∧ Below w.heap.size w w' := by
  obtain ⟨e1, e2, e3⟩ := Lw.askE_ok hE
  obtain ⟨⟨h1, h2, h3, h4, h5, h6, h7, h8⟩, _⟩ := Lw.groupE_ok e1
  obtain ⟨p1, p2, _⟩ := Lw.psB_cons e2
  obtain ⟨m1, e4⟩ := Lw.msB_cons e3
  obtain ⟨m2, _⟩ := Lw.msB_cons e4
  obtain ⟨x1, x2, _⟩ := Lw.memB_bd m1
  obtain ⟨y1, y2, _⟩ := Lw.memB_bd m2
  obtain ⟨z1, z2⟩ := Lw.pw_bd x r P (by omega)
  obtain ⟨q1, q2⟩ := Lw.mul_bd' m (Lw.pw x r P) 1048576 (by omega) (by omega) z1 (by omega)
  have HE := Lib.hid hE
  clear hE e1 e2 e3 e4 m1 m2
  go_enter Try.func20, Try.ntmps20
  go_wp2_with (go_at_call 38; refine (group_wrong' P Q G H _ [r] [x, m] HE.out _ _ _ _ _ _ _ (by first | exact Lw.Rd.nil _ _ _ | exact Lw.Rd.lit (Lw.blk_new' (by simp) _ _) rfl rfl | exact Lw.Rd.lit (Lw.blk_alloc (Lw.blk_new' (by simp) _ _) _) rfl rfl) (by first | exact Lw.Rd.nil _ _ _ | exact Lw.Rd.lit (Lw.blk_new' (by simp) _ _) rfl rfl | exact Lw.Rd.lit (Lw.blk_alloc (Lw.blk_new' (by simp) _ _) _) rfl rfl) (Lw.max_of (by omega)) (Lw.max_of (by omega))).mono ?_; rintro e w1 ⟨rfl, hb1⟩; obtain ⟨hc1, hf1⟩ := Lw.bcell hb1; have hz1 := hb1.size; (try simp at hz1); have hy1_00 : w.heap.size < w1.heap.size := (by omega); have hy1_01 : w.heap.size < w1.heap.size + 1 := (by omega); have hy1_02 : w.heap.size < w1.heap.size + 1 + 1 := (by omega); have hy1_10 : w.heap.size + 1 < w1.heap.size := (by omega); have hy1_11 : w.heap.size + 1 < w1.heap.size + 1 := (by omega); have hy1_12 : w.heap.size + 1 < w1.heap.size + 1 + 1 := (by omega))
  have W1 : IntKind.i64.wrap (m * Lw.pw x r P) = m * Lw.pw x r P := IntWalk.i64_in _ (by omega)
  have W2 : (m * Lw.pw x r P).tmod P = m * Lw.pw x r P % P := Int.tmod_eq_emod_of_nonneg q1
  have hP0 : ¬ P = 0 := by omega
  refine wp_region_still_tail 17 (by kernel_rfl) (by kernel_rfl) ?_
  simp only [List.take_succ_cons, List.take_zero, List.drop_succ_cons, List.drop_zero]
  iterate 17 (first | still_step | (refine wpStill_step (fun K hK => ?_); go_simp; refine ⟨_, (power_Of _ _ _ _ (by omega) (by omega) (by omega) (by omega)).mono (fun _ _ h => ⟨h.1, h.2.symm⟩), hK _ ?_⟩; clear hK K))
  refine wpStill_nil ?_
  change wpList _ _ _ _ _ w1.drew
  go_wp2
  refine bodyPost_ret (v := .tuple #[.agg #[.int .i64 (Lw.pw G r P), .int .i64 (m * Lw.pw x r P % P)], .int .i64 0]) (by simp [results, Try.results20, go_sem, hc1, hy1_10]) rfl ⟨rfl, ?_⟩
  (repeat (first | exact Below.refl _ _ | refine Lw.bt ?_ (by assumption) | refine Lw.balloc ?_ _ | refine Lw.bdrewN ?_ _ | refine Below.drew ?_ | refine Lw.bset ?_ (by first | (simp; done) | (simp; omega) | omega) _))
set_option maxHeartbeats 1000000 in
theorem group_Open_bad (P Q G H a A B E : Int) (w : World) (hE : Lw.askE P Q G H [a] [A, B] = E) (hn : (E != 0) = true) :
    Calls Try.prog 21 #[.agg #[.int .i64 P, .int .i64 Q, .int .i64 G, .int .i64 H], .int .i64 a, .agg #[.int .i64 A, .int .i64 B]] w fun e w' => e = .returned (.tuple #[.int .i64 0, .int .i64 E]) ∧ Below w.heap.size w w' := by
  have HE := Lib.hid hE
  clear hE
  go_enter Try.func21, Try.ntmps21
  go_wp2_with (go_at_call 38; refine (group_wrong' P Q G H _ [a] [A, B] HE.out _ _ _ _ _ _ _ (by first | exact Lw.Rd.nil _ _ _ | exact Lw.Rd.lit (Lw.blk_new' (by simp) _ _) rfl rfl | exact Lw.Rd.lit (Lw.blk_alloc (Lw.blk_new' (by simp) _ _) _) rfl rfl) (by first | exact Lw.Rd.nil _ _ _ | exact Lw.Rd.lit (Lw.blk_new' (by simp) _ _) rfl rfl | exact Lw.Rd.lit (Lw.blk_alloc (Lw.blk_new' (by simp) _ _) _) rfl rfl) (Lw.max_of (by omega)) (Lw.max_of (by omega))).mono ?_; rintro e w1 ⟨rfl, hb1⟩; obtain ⟨hc1, hf1⟩ := Lw.bcell hb1; have hz1 := hb1.size; (try simp at hz1); have hy1_00 : w.heap.size < w1.heap.size := (by omega); have hy1_01 : w.heap.size < w1.heap.size + 1 := (by omega); have hy1_02 : w.heap.size < w1.heap.size + 1 + 1 := (by omega); have hy1_10 : w.heap.size + 1 < w1.heap.size := (by omega); have hy1_11 : w.heap.size + 1 < w1.heap.size + 1 := (by omega); have hy1_12 : w.heap.size + 1 < w1.heap.size + 1 + 1 := (by omega))
  go_ret2
  exact ⟨rfl, by (repeat (first | exact Below.refl _ _ | refine Lw.bt ?_ (by assumption) | refine Lw.balloc ?_ _ | refine Lw.bdrewN ?_ _ | refine Below.drew ?_ | refine Lw.bset ?_ (by first | (simp; done) | (simp; omega) | omega) _))⟩
set_option maxHeartbeats 1000000 in
theorem group_Open_ok (P Q G H a A B : Int) (w : World) (hE : Lw.askE P Q G H [a] [A, B] = 0) :
    Calls Try.prog 21 #[.agg #[.int .i64 P, .int .i64 Q, .int .i64 G, .int .i64 H], .int .i64 a, .agg #[.int .i64 A, .int .i64 B]] w fun e w' => e = .returned (.tuple #[.int .i64 (B * Lw.pw A (Q - a) P % P), .int .i64 0]) ∧ Below w.heap.size w w' := by
  obtain ⟨e1, e2, e3⟩ := Lw.askE_ok hE
  obtain ⟨⟨h1, h2, h3, h4, h5, h6, h7, h8⟩, _⟩ := Lw.groupE_ok e1
  obtain ⟨p1, p2, _⟩ := Lw.psB_cons e2
  obtain ⟨m1, e4⟩ := Lw.msB_cons e3
  obtain ⟨m2, _⟩ := Lw.msB_cons e4
  obtain ⟨x1, x2, _⟩ := Lw.memB_bd m1
  obtain ⟨y1, y2, _⟩ := Lw.memB_bd m2
  obtain ⟨z1, z2⟩ := Lw.pw_bd A (Q - a) P (by omega)
  obtain ⟨q1, q2⟩ := Lw.mul_bd' B (Lw.pw A (Q - a) P) 1048576 (by omega) (by omega) z1 (by omega)
  have HE := Lib.hid hE
  clear hE e1 e2 e3 e4 m1 m2
  go_enter Try.func21, Try.ntmps21
  go_wp2_with (go_at_call 38; refine (group_wrong' P Q G H _ [a] [A, B] HE.out _ _ _ _ _ _ _ (by first | exact Lw.Rd.nil _ _ _ | exact Lw.Rd.lit (Lw.blk_new' (by simp) _ _) rfl rfl | exact Lw.Rd.lit (Lw.blk_alloc (Lw.blk_new' (by simp) _ _) _) rfl rfl) (by first | exact Lw.Rd.nil _ _ _ | exact Lw.Rd.lit (Lw.blk_new' (by simp) _ _) rfl rfl | exact Lw.Rd.lit (Lw.blk_alloc (Lw.blk_new' (by simp) _ _) _) rfl rfl) (Lw.max_of (by omega)) (Lw.max_of (by omega))).mono ?_; rintro e w1 ⟨rfl, hb1⟩; obtain ⟨hc1, hf1⟩ := Lw.bcell hb1; have hz1 := hb1.size; (try simp at hz1); have hy1_00 : w.heap.size < w1.heap.size := (by omega); have hy1_01 : w.heap.size < w1.heap.size + 1 := (by omega); have hy1_02 : w.heap.size < w1.heap.size + 1 + 1 := (by omega); have hy1_10 : w.heap.size + 1 < w1.heap.size := (by omega); have hy1_11 : w.heap.size + 1 < w1.heap.size + 1 := (by omega); have hy1_12 : w.heap.size + 1 < w1.heap.size + 1 + 1 := (by omega))
  have W0 : IntKind.i64.wrap (Q - a) = Q - a := IntWalk.i64_in _ (by omega)
  have W1 : IntKind.i64.wrap (B * Lw.pw A (Q - a) P) = B * Lw.pw A (Q - a) P := IntWalk.i64_in _ (by omega)
  have W2 : (B * Lw.pw A (Q - a) P).tmod P = B * Lw.pw A (Q - a) P % P := Int.tmod_eq_emod_of_nonneg q1
  have hP0 : ¬ P = 0 := by omega
  go_quiet ((go_at_call 39; exact Lw.quiet (power_Of _ _ _ _ (by omega) (by omega) (by omega) (by omega))))
  go_wp2
  go_ret2
  exact ⟨rfl, by (repeat (first | exact Below.refl _ _ | refine Lw.bt ?_ (by assumption) | refine Lw.balloc ?_ _ | refine Lw.bdrewN ?_ _ | refine Below.drew ?_ | refine Lw.bset ?_ (by first | (simp; done) | (simp; omega) | omega) _))⟩
set_option maxHeartbeats 1000000 in
theorem group_Mul_bad (P Q G H A B C D E : Int) (w : World) (hE : Lw.askE P Q G H [] [A, B, C, D] = E) (hn : (E != 0) = true) :
    Calls Try.prog 23 #[.agg #[.int .i64 P, .int .i64 Q, .int .i64 G, .int .i64 H], .agg #[.int .i64 A, .int .i64 B], .agg #[.int .i64 C, .int .i64 D]] w fun e w' => e = .returned (.tuple #[.agg #[.int .i64 0, .int .i64 0], .int .i64 E]) ∧ Below w.heap.size w w' := by
  have HE := Lib.hid hE
  clear hE
  go_enter Try.func23, Try.ntmps23
  go_wp2_with (go_at_call 38; refine (group_wrong' P Q G H _ [] [A, B, C, D] HE.out _ _ _ _ _ _ _ (by first | exact Lw.Rd.nil _ _ _ | exact Lw.Rd.lit (Lw.blk_new' (by simp) _ _) rfl rfl | exact Lw.Rd.lit (Lw.blk_alloc (Lw.blk_new' (by simp) _ _) _) rfl rfl) (by first | exact Lw.Rd.nil _ _ _ | exact Lw.Rd.lit (Lw.blk_new' (by simp) _ _) rfl rfl | exact Lw.Rd.lit (Lw.blk_alloc (Lw.blk_new' (by simp) _ _) _) rfl rfl) (Lw.max_of (by omega)) (Lw.max_of (by omega))).mono ?_; rintro e w1 ⟨rfl, hb1⟩; obtain ⟨hc1, hf1⟩ := Lw.bcell hb1; have hz1 := hb1.size; (try simp at hz1); have hy1_00 : w.heap.size < w1.heap.size := (by omega); have hy1_01 : w.heap.size < w1.heap.size + 1 := (by omega); have hy1_02 : w.heap.size < w1.heap.size + 1 + 1 := (by omega); have hy1_10 : w.heap.size + 1 < w1.heap.size := (by omega); have hy1_11 : w.heap.size + 1 < w1.heap.size + 1 := (by omega); have hy1_12 : w.heap.size + 1 < w1.heap.size + 1 + 1 := (by omega); have hy1_20 : w.heap.size + 1 + 1 < w1.heap.size := (by omega); have hy1_21 : w.heap.size + 1 + 1 < w1.heap.size + 1 := (by omega); have hy1_22 : w.heap.size + 1 + 1 < w1.heap.size + 1 + 1 := (by omega); have hy1_30 : w.heap.size + 1 + 1 + 1 < w1.heap.size := (by omega); have hy1_31 : w.heap.size + 1 + 1 + 1 < w1.heap.size + 1 := (by omega); have hy1_32 : w.heap.size + 1 + 1 + 1 < w1.heap.size + 1 + 1 := (by omega))
  refine bodyPost_ret (v := .tuple #[.agg #[.int .i64 0, .int .i64 0], .int .i64 E]) (by simp [results, Try.results23, go_sem, hc1, hy1_30]) rfl ⟨rfl, ?_⟩
  (repeat (first | exact Below.refl _ _ | refine Lw.bt ?_ (by assumption) | refine Lw.balloc ?_ _ | refine Lw.bdrewN ?_ _ | refine Below.drew ?_ | refine Lw.bset ?_ (by first | (simp; done) | (simp; omega) | omega) _))
set_option maxHeartbeats 1000000 in
theorem group_Mul_ok (P Q G H A B C D : Int) (w : World) (hE : Lw.askE P Q G H [] [A, B, C, D] = 0) :
    Calls Try.prog 23 #[.agg #[.int .i64 P, .int .i64 Q, .int .i64 G, .int .i64 H], .agg #[.int .i64 A, .int .i64 B], .agg #[.int .i64 C, .int .i64 D]] w fun e w' => e = .returned (.tuple #[.agg #[.int .i64 (A * C % P), .int .i64 (B * D % P)], .int .i64 0]) ∧ Below w.heap.size w w' := by
  obtain ⟨e1, e2, e3⟩ := Lw.askE_ok hE
  obtain ⟨⟨h1, h2, h3, h4, h5, h6, h7, h8⟩, _⟩ := Lw.groupE_ok e1
  obtain ⟨m1, e4⟩ := Lw.msB_cons e3
  obtain ⟨m2, e5⟩ := Lw.msB_cons e4
  obtain ⟨m3, e6⟩ := Lw.msB_cons e5
  obtain ⟨m4, _⟩ := Lw.msB_cons e6
  obtain ⟨x1, x2, _⟩ := Lw.memB_bd m1
  obtain ⟨y1, y2, _⟩ := Lw.memB_bd m2
  obtain ⟨u1, u2, _⟩ := Lw.memB_bd m3
  obtain ⟨v1, v2, _⟩ := Lw.memB_bd m4
  obtain ⟨q1, q2⟩ := Lw.mul_bd' A C 1048576 (by omega) (by omega) (by omega) (by omega)
  obtain ⟨q3, q4⟩ := Lw.mul_bd' B D 1048576 (by omega) (by omega) (by omega) (by omega)
  have HE := Lib.hid hE
  clear hE e1 e2 e3 e4 e5 e6 m1 m2 m3 m4
  go_enter Try.func23, Try.ntmps23
  go_wp2_with (go_at_call 38; refine (group_wrong' P Q G H _ [] [A, B, C, D] HE.out _ _ _ _ _ _ _ (by first | exact Lw.Rd.nil _ _ _ | exact Lw.Rd.lit (Lw.blk_new' (by simp) _ _) rfl rfl | exact Lw.Rd.lit (Lw.blk_alloc (Lw.blk_new' (by simp) _ _) _) rfl rfl) (by first | exact Lw.Rd.nil _ _ _ | exact Lw.Rd.lit (Lw.blk_new' (by simp) _ _) rfl rfl | exact Lw.Rd.lit (Lw.blk_alloc (Lw.blk_new' (by simp) _ _) _) rfl rfl) (Lw.max_of (by omega)) (Lw.max_of (by omega))).mono ?_; rintro e w1 ⟨rfl, hb1⟩; obtain ⟨hc1, hf1⟩ := Lw.bcell hb1; have hz1 := hb1.size; (try simp at hz1); have hy1_00 : w.heap.size < w1.heap.size := (by omega); have hy1_01 : w.heap.size < w1.heap.size + 1 := (by omega); have hy1_02 : w.heap.size < w1.heap.size + 1 + 1 := (by omega); have hy1_10 : w.heap.size + 1 < w1.heap.size := (by omega); have hy1_11 : w.heap.size + 1 < w1.heap.size + 1 := (by omega); have hy1_12 : w.heap.size + 1 < w1.heap.size + 1 + 1 := (by omega); have hy1_20 : w.heap.size + 1 + 1 < w1.heap.size := (by omega); have hy1_21 : w.heap.size + 1 + 1 < w1.heap.size + 1 := (by omega); have hy1_22 : w.heap.size + 1 + 1 < w1.heap.size + 1 + 1 := (by omega); have hy1_30 : w.heap.size + 1 + 1 + 1 < w1.heap.size := (by omega); have hy1_31 : w.heap.size + 1 + 1 + 1 < w1.heap.size + 1 := (by omega); have hy1_32 : w.heap.size + 1 + 1 + 1 < w1.heap.size + 1 + 1 := (by omega))
  have W1 : IntKind.i64.wrap (A * C) = A * C := IntWalk.i64_in _ (by omega)
  have W2 : (A * C).tmod P = A * C % P := Int.tmod_eq_emod_of_nonneg q1
  have W3 : IntKind.i64.wrap (B * D) = B * D := IntWalk.i64_in _ (by omega)
  have W4 : (B * D).tmod P = B * D % P := Int.tmod_eq_emod_of_nonneg q3
  have hP0 : ¬ P = 0 := by omega
  refine wp_region_still_tail 17 (by kernel_rfl) (by kernel_rfl) ?_
  simp only [List.take_succ_cons, List.take_zero, List.drop_succ_cons, List.drop_zero]
  iterate 17 (first | still_step | (refine wpStill_step (fun K hK => ?_); go_simp; refine ⟨_, (power_Of _ _ _ _ (by omega) (by omega) (by omega) (by omega)).mono (fun _ _ h => ⟨h.1, h.2.symm⟩), hK _ ?_⟩; clear hK K))
  refine wpStill_nil ?_
  change wpList _ _ _ _ _ w1.drew
  go_wp2
  refine bodyPost_ret (v := .tuple #[.agg #[.int .i64 (A * C % P), .int .i64 (B * D % P)], .int .i64 0]) (by simp [results, Try.results23, go_sem, hc1, hy1_30]) rfl ⟨rfl, ?_⟩
  (repeat (first | exact Below.refl _ _ | refine Lw.bt ?_ (by assumption) | refine Lw.balloc ?_ _ | refine Lw.bdrewN ?_ _ | refine Below.drew ?_ | refine Lw.bset ?_ (by first | (simp; done) | (simp; omega) | omega) _))
end Go.Proofs.Ytendeagfgpdedaa

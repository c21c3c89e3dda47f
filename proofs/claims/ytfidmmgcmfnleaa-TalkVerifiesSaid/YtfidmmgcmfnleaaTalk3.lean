/- Contracts of talk.Feign and talk.Extract. -/
import Derived.Test.YtfidmmgcmfnleaaTalk2
import Derived.Test.YtfidmmgcmfnleaaBrk
import Derived.Test.YtfidmmgcmfnleaaRegT
namespace Lw
/-- what is feigned is right -/
theorem feign_ok {P Q G H y k a : Int} (h : askE P Q G H (pwsOf [(1, k, a)]) (y :: fstsOf [(1, k, a)]) = 0) :
    memB P Q (pw G a P * pw y (Q - k) P % P) = true ∧ rightB P G y (pw G a P * pw y (Q - k) P % P) k a = true := by
  obtain ⟨e1, k1, k2, a1, a2, m1, _⟩ := said_facts h
  obtain ⟨h1, h2, h3, h4, h5, h6, h7, h8, hP, hQ, hG, hH⟩ := grp_facts e1
  obtain ⟨y1, y2, y3⟩ := memB_bd m1
  have hP1 : 1 < P := by omega
  have hQ0 : 0 < Q := by omega
  have g1 : pw y (Q - k) P = gp P Q y (-k) := by
    rw [gp_of hP1 hQ0 y3 (by omega)]
    exact gp_congr y (by rw [show Q - k = -k + Q by omega, Int.add_emod_right])
  have hb := pw_bd G a P (by omega)
  have hm : pw (pw G a P) Q P = 1 := by rw [gp_of hP1 hQ0 hG a1]; exact gp_mem hP1 hQ0 hG a
  have hx := mem_mul hP1 hm (gp_mem hP1 hQ0 y3 (-k))
  have hd := emod_bd (pw G a P * gp P Q y (-k)) P (by omega)
  rw [g1]
  refine ⟨?_, ?_⟩
  · rw [memB_in ⟨mem_pos hP1 hQ0 hd.1 hx, hd.2⟩, hx]; rfl
  · unfold rightB
    rw [gp_of hP1 hQ0 y3 k1, gp_cancel hP1 hQ0 y3 k hb.1 hb.2]
    simp
theorem said_two {P Q G H y F k a F' l b : Int} (h : askE P Q G H (pwsOf [(F, k, a), (F', l, b)]) (y :: fstsOf [(F, k, a), (F', l, b)]) = 0) :
    groupE P Q G H = 0 ∧ 0 ≤ k ∧ k < Q ∧ 0 ≤ a ∧ a < Q ∧ 0 ≤ l ∧ l < Q ∧ 0 ≤ b ∧ b < Q ∧ memB P Q y = true ∧ memB P Q F = true ∧ memB P Q F' = true := by
  obtain ⟨e1, e2, e3⟩ := askE_ok h
  obtain ⟨k1, k2, e4⟩ := psB_cons (ps := [a, l, b]) e2
  obtain ⟨a1, a2, e5⟩ := psB_cons e4
  obtain ⟨l1, l2, e6⟩ := psB_cons e5
  obtain ⟨b1, b2, _⟩ := psB_cons e6
  obtain ⟨m1, e7⟩ := msB_cons (ms := [F, F']) e3
  obtain ⟨m2, e8⟩ := msB_cons e7
  obtain ⟨m3, _⟩ := msB_cons e8
  exact ⟨e1, k1, k2, a1, a2, l1, l2, b1, b2, m1, m2, m3⟩
/-- two answers to one first number tell the secret -/
theorem extract_ok {P Q G H y F k a l b : Int} (h : askE P Q G H (pwsOf [(F, k, a), (F, l, b)]) (y :: fstsOf [(F, k, a), (F, l, b)]) = 0) (r1 : rightB P G y F k a = true) (r2 : rightB P G y F l b = true) (hne : ¬ k = l) :
    gcdI ((k - l) % Q) Q = 1 ∧ 0 ≤ (a - b) % Q * invI ((k - l) % Q) Q % Q ∧ (a - b) % Q * invI ((k - l) % Q) Q % Q < Q ∧ pw G ((a - b) % Q * invI ((k - l) % Q) Q % Q) P = y := by
  obtain ⟨e1, k1, k2, a1, a2, l1, l2, b1, b2, m1, m2, _⟩ := said_two h
  obtain ⟨h1, h2, h3, h4, h5, h6, h7, h8, hP, hQ, hG, hH⟩ := grp_facts e1
  obtain ⟨y1, y2, y3⟩ := memB_bd m1
  obtain ⟨f1, f2, f3⟩ := memB_bd m2
  have hP1 : 1 < P := by omega
  have hQ0 : 0 < Q := by omega
  unfold rightB at r1 r2
  simp at r1 r2
  have e := two_answers hP1 hQ0 hG f3 f1 f2 y3 a1 k1 b1 l1 r1 r2
  refine quot hP1 hQ hG y3 y1 y2 e fun hv => hne ?_
  by_cases h0 : 0 ≤ k - l
  · rw [Int.emod_eq_of_lt h0 (by omega)] at hv; omega
  · have : (k - l) % Q = k - l + Q := by rw [← Int.add_emod_right, Int.emod_eq_of_lt (by omega) (by omega)]
    omega
end Lw
set_option linter.unusedVariables false
set_option linter.unusedSimpArgs false
namespace Go.Proofs.Ytfidmmgcmfnleaa
open Go.RowKit
set_option maxHeartbeats 1000000 in
theorem talk_Feign_bad (P Q G H y k a E : Int) (w : World) (hE : Lw.askE P Q G H (Lw.pwsOf [(1, k, a)]) (y :: Lw.fstsOf [(1, k, a)]) = E) (hn : (E != 0) = true) :
    Calls Try.prog 9 #[.agg #[.int .i64 P, .int .i64 Q, .int .i64 G, .int .i64 H], .int .i64 y, .int .i64 k, .int .i64 a] w fun e w' => e = .returned (.tuple #[.agg #[.int .i64 0, .int .i64 0, .int .i64 0], .int .i64 E]) ∧ Below w.heap.size w w' := by
  have HE := Lib.hid hE
  clear hE
  go_enter Try.func9, Try.ntmps9
  go_wp2_with (go_at_call 24; refine (talk_said' P Q G H y _ [(1, k, a)] HE.out _ _ _ _ (by first | exact Lw.Rd.nil _ _ _ | exact Lw.Rd.lit (Lw.blk_new' (by simp) _ _) rfl rfl | exact Lw.Rd.lit (Lw.blk_alloc (Lw.blk_new' (by simp) _ _) _) rfl rfl) (Lw.max_of (by omega)) (by omega)).mono ?_; rintro e w1 ⟨rfl, hb1⟩; have B1 := Lib.hid ((hb1.block (w.heap.size + 1) (by simp)).trans (Lw.blk_alloc (Lw.blk_alloc (Lw.blk_new' (by simp) _ _) _) _)); have l0 := Lw.blk_cell B1.out 0; have l1 := Lw.blk_cell B1.out 1; have l2 := Lw.blk_cell B1.out 2; have fr := fun i => Lw.blk_free B1.out i; simp at l0 l1 l2)
  refine bodyPost_ret (v := .tuple #[.agg #[.int .i64 0, .int .i64 0, .int .i64 0], .int .i64 E]) (by simp [results, Try.results9, go_sem, l0, l1, l2]) rfl ⟨rfl, ?_⟩
  (repeat (first | exact Below.refl _ _ | refine Lw.bt ?_ (by assumption) | refine Lw.balloc ?_ _ | refine Lw.bdrewN ?_ _ | refine Below.drew ?_ | refine Lw.bset ?_ (by first | (simp; done) | (simp; omega) | omega) _))
set_option maxRecDepth 8192 in
set_option maxHeartbeats 2000000 in
theorem talk_Feign_ok (P Q G H y k a : Int) (w : World) (hE : Lw.askE P Q G H (Lw.pwsOf [(1, k, a)]) (y :: Lw.fstsOf [(1, k, a)]) = 0) :
    Calls Try.prog 9 #[.agg #[.int .i64 P, .int .i64 Q, .int .i64 G, .int .i64 H], .int .i64 y, .int .i64 k, .int .i64 a] w fun e w' => e = .returned (.tuple #[.agg #[.int .i64 (Lw.pw G a P * Lw.pw y (Q - k) P % P), .int .i64 k, .int .i64 a], .int .i64 0]) ∧ Below w.heap.size w w' := by
  obtain ⟨e1, k1, k2, a1, a2, m1, m2⟩ := Lw.said_facts hE
  obtain ⟨h1, h2, h3, h4, _⟩ := Lw.grp_facts e1
  obtain ⟨q1, q2⟩ := Lw.pw_prod_bd (by omega) h2 (Lw.pw_bd G a P (by omega)) (Lw.pw_bd y (Q - k) P (by omega))
  have hP0 : ¬ P = 0 := by omega
  have W0 : IntKind.i64.wrap (Q - k) = Q - k := IntWalk.i64_in _ (by omega)
  have W1 : IntKind.i64.wrap (Lw.pw G a P * Lw.pw y (Q - k) P) = Lw.pw G a P * Lw.pw y (Q - k) P := IntWalk.i64_in _ (by omega)
  have W2 : (Lw.pw G a P * Lw.pw y (Q - k) P).tmod P = Lw.pw G a P * Lw.pw y (Q - k) P % P := Int.tmod_eq_emod_of_nonneg q1
  have W0 := Lib.hid W0; have W1 := Lib.hid W1; have W2 := Lib.hid W2
  have HE := Lib.hid hE
  clear hE e1 m1 m2
  go_enter Try.func9, Try.ntmps9
  go_wp2_with (go_at_call 24; refine (talk_said' P Q G H y _ [(1, k, a)] HE.out _ _ _ _ (by first | exact Lw.Rd.nil _ _ _ | exact Lw.Rd.lit (Lw.blk_new' (by simp) _ _) rfl rfl | exact Lw.Rd.lit (Lw.blk_alloc (Lw.blk_new' (by simp) _ _) _) rfl rfl) (Lw.max_of (by omega)) (by omega)).mono ?_; rintro e w1 ⟨rfl, hb1⟩)
  have hz1 := hb1.size
  simp at hz1
  have B0 := Lib.hid ((hb1.block w.heap.size (by simp; omega)).trans (Lw.blk_alloc (Lw.blk_alloc (Lw.blk_alloc (Lw.blk_new _ _ _) _) _) _))
  have B1 := Lib.hid ((hb1.block (w.heap.size + 1) (by simp)).trans (Lw.blk_alloc (Lw.blk_alloc (Lw.blk_new' (by simp) _ _) _) _))
  have B2 := Lib.hid ((hb1.block (w.heap.size + 1 + 1) (by simp)).trans (Lw.blk_alloc (Lw.blk_new' (by simp) _ _) _))
  have k0_0 := Lw.blk_cell B0.out 0; have k0_1 := Lw.blk_cell B0.out 1; have k0_2 := Lw.blk_cell B0.out 2; have k0_3 := Lw.blk_cell B0.out 3
  simp at k0_0 k0_1 k0_2 k0_3
  have l0 := Lw.blk_cell B1.out 0; have l1 := Lw.blk_cell B1.out 1; have l2 := Lw.blk_cell B1.out 2; have fr := fun i => Lw.blk_free B1.out i
  simp at l0 l1 l2
  have n0 := Lw.blk_cell B2.out 0; have n1 := Lw.blk_cell B2.out 1; have n2 := Lw.blk_cell B2.out 2; have fr2 := fun i => Lw.blk_free B2.out i
  simp at n0 n1 n2
  have hB1 : Below w.heap.size w w1 := by (repeat (first | exact Below.refl _ _ | refine Lw.bt ?_ (by assumption) | refine Lw.balloc ?_ _ | refine Lw.bdrewN ?_ _ | refine Below.drew ?_ | refine Lw.bset ?_ (by first | (simp; done) | (simp; omega) | omega) _))
  clear hb1
  have V0 := W0.out; have V1 := W1.out; have V2 := W2.out
  refine wp_region_still_tail 18 (by kernel_rfl) (by kernel_rfl) ?_
  simp only [List.take_succ_cons, List.take_zero, List.drop_succ_cons, List.drop_zero]
  iterate 18 (first | still_step | (refine wpStill_step (fun K hK => ?_); go_simp; refine ⟨_, (power_Of _ _ _ _ (by omega) (by omega) (by omega) (by omega)).mono (fun _ _ h => ⟨h.1, h.2.symm⟩), hK _ ?_⟩; clear hK K))
  refine wpStill_nil ?_
  change wpList _ _ _ _ _ w1.drew
  go_wp2
  refine bodyPost_ret (v := .tuple #[.agg #[.int .i64 (Lw.pw G a P * Lw.pw y (Q - k) P % P), .int .i64 k, .int .i64 a], .int .i64 0]) (by simp [results, Try.results9, go_sem, l0, l1, l2]) rfl ⟨rfl, ?_⟩
  (repeat (first | exact Below.refl _ _ | refine Lw.bt ?_ (by assumption) | refine Lw.balloc ?_ _ | refine Lw.bdrewN ?_ _ | refine Below.drew ?_ | refine Lw.bset ?_ (by first | (simp; done) | (simp; omega) | omega) _))
end Go.Proofs.Ytfidmmgcmfnleaa

/- Contracts of shake.Finish and of the reference's Shake. -/
import Derived.Test.YtkjcpjbdckbjcaaKTopRight8
set_option linter.unusedVariables false
set_option linter.unusedSimpArgs false
namespace Go.Proofs.Ytkjcpjbdckbjcaa
open Go.RowKit
set_option maxHeartbeats 4000000 in
theorem shake_Finish_bad1 (P Q G H k x rE rT rK E : Int) (w : World) (E1_G : Lw.askE P Q G H [k] [G] = E) (hn : (E != 0) = true) :
    Calls Try.prog 33 #[.agg #[.int .i64 P, .int .i64 Q, .int .i64 G, .int .i64 H], .int .i64 k, .int .i64 x, .agg #[.int .i64 rE, .int .i64 rT, .int .i64 rK]] w fun e w' => e = .returned (.tuple #[.int .i64 0, .int .i64 E]) ∧ Below w.heap.size w w' := by
  obtain ⟨W0, hW0⟩ : ∃ W, (w.alloc (.cells #[.int .i64 P, .int .i64 Q, .int .i64 G, .int .i64 H] 23)).alloc (.cells #[.int .i64 rE, .int .i64 rT, .int .i64 rK] 52) = W := ⟨_, rfl⟩
  have B0 := Lib.hid (show W0.heap[w.heap.size]? = some (.cells #[.int .i64 P, .int .i64 Q, .int .i64 G, .int .i64 H] 23 (0, 0)) from hW0 ▸ Lw.blk_alloc (Lw.blk_new _ _ _) _)
  have B1 := Lib.hid (show W0.heap[w.heap.size + 1]? = some (.cells #[.int .i64 rE, .int .i64 rT, .int .i64 rK] 52 (0, 0)) from hW0 ▸ Lw.blk_new' (by simp) _ _)
  have hBW : Below w.heap.size w W0 := by rw [← hW0]; (repeat (first | exact Below.refl _ _ | refine Lw.bt ?_ (by assumption) | refine Lw.balloc ?_ _ | refine Lw.bdrewN ?_ _ | refine Below.drew ?_ | refine Lw.bset ?_ (by first | (simp; done) | (simp; omega) | omega) _))
  have z1 : W0.heap.size ≤ w.heap.size + 1 + 1 := by rw [← hW0]; simp
  have z2 : w.heap.size + 1 + 1 ≤ W0.heap.size := by rw [← hW0]; simp
  have HZ : Hid (W0.heap.size = w.heap.size + 1 + 1) := by show _ = _; omega
  have HW0 := Lib.hid hW0
  clear hW0
  have g0 : w.heap.size < W0.heap.size := by omega
  have g1 : w.heap.size + 1 < W0.heap.size := by omega
  have m0 := Lw.blk_cell B0.out 0; have m1 := Lw.blk_cell B0.out 1; have m2 := Lw.blk_cell B0.out 2; have m3 := Lw.blk_cell B0.out 3
  have l0 := Lw.blk_cell B1.out 0; have l1 := Lw.blk_cell B1.out 1; have l2 := Lw.blk_cell B1.out 2
  simp at m0 m1 m2 m3 l0 l1 l2
  have SK := Lib.hid (fun (k x : Int) (b : Nat) (w : World) hb => shake_shared_skip P Q G H k x E b w hb hn)
  go_enter Try.func33, Try.ntmps33
  go_wp2_with fail
  rw [HW0.out]
  have hS0 : Lw.Sm W0 (W0.alloc (.cells #[.int .i64 P, .int .i64 Q, .int .i64 G, .int .i64 H, .int .i64 0] 89)).drew := Lw.sm_of (Below.drew (Lw.balloc (Below.refl _ _) _))
  have BE0 := Lib.hid (Lw.blk_drew (Lw.blk_new' HZ.out #[.int .i64 P, .int .i64 Q, .int .i64 G, .int .i64 H, .int .i64 0] 89))
  refine wp_region_held_drew (S := Lw.Sm W0) (by kernel_rfl) hS0 (fun hHeld => ?_)
  (refine Lw.take1 (i := 0) (v := ?_) rfl (by kernel_rfl) (by kernel_rfl) (by kernel_rfl) (fun _ _ _ h => h) (Or.inl ⟨by rfl, ?_⟩) (by assumption) ?_; rotate_left 1; (focus (intro wS hSw; obtain ⟨hS1, hS2, hS3, hS4⟩ := hSw; go_simp <;> with_reducible rfl)); (try simp only [Act.put, List.setIfInBounds_toArray, List.set_cons_zero, List.set_cons_succ]))
  (refine Lw.take1 (i := 1) (v := ?_) rfl (by kernel_rfl) (by kernel_rfl) (by kernel_rfl) (fun _ _ _ h => h) (Or.inl ⟨by rfl, ?_⟩) (by assumption) ?_; rotate_left 1; (focus (intro wS hSw; obtain ⟨hS1, hS2, hS3, hS4⟩ := hSw; go_simp <;> with_reducible rfl)); (try simp only [Act.put, List.setIfInBounds_toArray, List.set_cons_zero, List.set_cons_succ]))
  (refine Lw.take1 (i := 2) (v := ?_) rfl (by kernel_rfl) (by kernel_rfl) (by kernel_rfl) (fun _ _ _ h => h) (Or.inl ⟨by rfl, ?_⟩) (by assumption) ?_; rotate_left 1; (focus (intro wS hSw; obtain ⟨hS1, hS2, hS3, hS4⟩ := hSw; go_simp <;> with_reducible rfl)); (try simp only [Act.put, List.setIfInBounds_toArray, List.set_cons_zero, List.set_cons_succ]))
  (refine Lw.take1 (i := 3) (v := ?_) rfl (by kernel_rfl) (by kernel_rfl) (by kernel_rfl) (fun _ _ _ h => h) (Or.inl ⟨by rfl, ?_⟩) (by assumption) ?_; rotate_left 1; (focus (intro wS hSw; obtain ⟨hS1, hS2, hS3, hS4⟩ := hSw; go_simp <;> with_reducible rfl)); (try simp only [Act.put, List.setIfInBounds_toArray, List.set_cons_zero, List.set_cons_succ]))
  (refine Lw.take1 (i := 5) (v := ?_) rfl (by kernel_rfl) (by kernel_rfl) (by kernel_rfl) (fun _ _ _ h => h) (Or.inl ⟨by rfl, ?_⟩) (by assumption) ?_; rotate_left 1; (focus (intro wS hSw; obtain ⟨hS1, hS2, hS3, hS4⟩ := hSw; go_simp <;> with_reducible rfl)); (try simp only [Act.put, List.setIfInBounds_toArray, List.set_cons_zero, List.set_cons_succ]))
  (refine Lw.take1 (i := 6) (v := ?_) rfl (by kernel_rfl) (by kernel_rfl) (by kernel_rfl) (fun _ _ _ h => h) (Or.inl ⟨by rfl, ?_⟩) (by assumption) ?_; rotate_left 1; (focus (intro wS hSw; obtain ⟨hS1, hS2, hS3, hS4⟩ := hSw; go_simp <;> with_reducible rfl)); (try simp only [Act.put, List.setIfInBounds_toArray, List.set_cons_zero, List.set_cons_succ]))
  (refine Lw.take1 (i := 7) (v := ?_) rfl (by kernel_rfl) (by kernel_rfl) (by kernel_rfl) (fun _ _ _ h => h) (Or.inl ⟨by rfl, ?_⟩) (by assumption) ?_; rotate_left 1; (focus (intro wS hSw; obtain ⟨hS1, hS2, hS3, hS4⟩ := hSw; go_simp <;> with_reducible rfl)); (try simp only [Act.put, List.setIfInBounds_toArray, List.set_cons_zero, List.set_cons_succ]))
  (refine Lw.take1 (i := 9) (v := ?_) rfl (by kernel_rfl) (by kernel_rfl) (by kernel_rfl) (fun _ _ _ h => h) (Or.inl ⟨by rfl, ?_⟩) (by assumption) ?_; rotate_left 1; (focus (intro wS hSw; obtain ⟨hS1, hS2, hS3, hS4⟩ := hSw; go_simp <;> with_reducible rfl)); (try simp only [Act.put, List.setIfInBounds_toArray, List.set_cons_zero, List.set_cons_succ]))
  (refine Lw.take1 (i := 10) (v := ?_) rfl (by kernel_rfl) (by kernel_rfl) (by kernel_rfl) (fun _ _ _ h => h) (Or.inl ⟨by rfl, ?_⟩) (by assumption) ?_; rotate_left 1; (focus (intro wS hSw; obtain ⟨hS1, hS2, hS3, hS4⟩ := hSw; go_simp <;> with_reducible rfl)); (try simp only [Act.put, List.setIfInBounds_toArray, List.set_cons_zero, List.set_cons_succ]))
  (refine Lw.take1 (i := 11) (v := ?_) rfl (by kernel_rfl) (by kernel_rfl) (by kernel_rfl) (fun _ _ _ h => h) (Or.inl ⟨by rfl, ?_⟩) (by assumption) ?_; rotate_left 1; (focus (intro wS hSw; obtain ⟨hS1, hS2, hS3, hS4⟩ := hSw; go_simp <;> with_reducible rfl)); (try simp only [Act.put, List.setIfInBounds_toArray, List.set_cons_zero, List.set_cons_succ]))
  (refine Lw.take1 (i := 12) (v := ?_) rfl (by kernel_rfl) (by kernel_rfl) (by kernel_rfl) (fun _ _ _ h => h) (Or.inl ⟨by rfl, ?_⟩) (by assumption) ?_; rotate_left 1; (focus (intro wS hSw; obtain ⟨hS1, hS2, hS3, hS4⟩ := hSw; go_simp <;> with_reducible rfl)); (try simp only [Act.put, List.setIfInBounds_toArray, List.set_cons_zero, List.set_cons_succ]))
  (refine wpAnyH_ready (rs := [4]) (by kernel_rfl) (by simp) ?_; refine Lw.cons1 (i := 4) rfl (fun K hK => ?_) AllReadyH.nil; go_simp; go_at_call 48; (with_reducible refine (shake_shared_bad P Q G H k G E _ _ BE0.out E1_G hn).mono ?_); rintro e w1 ⟨rfl, hB1, hb1⟩; refine hK.out _ _ ?_ (fun hHeld => ?_); (focus exact Lw.sm_of ((Lw.sm_bel hS0).trans (hb1.mono z1))); clear hK K; (try simp only [Act.put, List.setIfInBounds_toArray, List.set_cons_zero, List.set_cons_succ]))
  have hS1 := Lw.sm_of ((Lw.sm_bel hS0).trans (hb1.mono z1))
  have BE1 := Lib.hid hB1
  clear hb1 hB1
  (refine wpAnyH_ready (rs := [8]) (by kernel_rfl) (by simp) ?_; refine Lw.cons1 (i := 8) rfl (fun K hK => ?_) AllReadyH.nil; go_simp; go_at_call 48; (with_reducible refine (SK.out k x _ _ BE1.out).mono ?_); rintro e wx ⟨rfl, rfl⟩; refine hK.out _ _ ?_ (fun hHeld => ?_); (focus exact hS1); clear hK K; (try simp only [Act.put, List.setIfInBounds_toArray, List.set_cons_zero, List.set_cons_succ]))
  (refine wpAnyH_ready (rs := [13]) (by kernel_rfl) (by simp) ?_; refine Lw.cons1 (i := 13) rfl (fun K hK => ?_) AllReadyH.nil; go_simp; go_at_call 48; (with_reducible refine (SK.out k rE _ _ BE1.out).mono ?_); rintro e wx ⟨rfl, rfl⟩; refine hK.out _ _ ?_ (fun hHeld => ?_); (focus exact hS1); clear hK K; (try simp only [Act.put, List.setIfInBounds_toArray, List.set_cons_zero, List.set_cons_succ]))
  (refine Lw.take1 (i := 14) (v := ?_) rfl (by kernel_rfl) (by kernel_rfl) (by kernel_rfl) (fun _ _ _ h => h) (Or.inl ⟨by rfl, ?_⟩) (by assumption) ?_; rotate_left 1; (focus (intro wS hSw; obtain ⟨hS1, hS2, hS3, hS4⟩ := hSw; go_simp <;> with_reducible rfl)); (try simp only [Act.put, List.setIfInBounds_toArray, List.set_cons_zero, List.set_cons_succ]))
  (refine Lw.take1 (i := 15) (v := ?_) rfl (by kernel_rfl) (by kernel_rfl) (by kernel_rfl) (fun _ _ _ h => h) (Or.inl ⟨by rfl, ?_⟩) (by assumption) ?_; rotate_left 1; (focus (intro wS hSw; obtain ⟨hS1, hS2, hS3, hS4⟩ := hSw; go_simp <;> with_reducible rfl)); (try simp only [Act.put, List.setIfInBounds_toArray, List.set_cons_zero, List.set_cons_succ]))
  (refine Lw.take1 (i := 16) (v := ?_) rfl (by kernel_rfl) (by kernel_rfl) (by kernel_rfl) (fun _ _ _ h => h) (Or.inl ⟨by rfl, ?_⟩) (by assumption) ?_; rotate_left 1; (focus (intro wS hSw; obtain ⟨hS1, hS2, hS3, hS4⟩ := hSw; go_simp <;> with_reducible rfl)); (try simp only [Act.put, List.setIfInBounds_toArray, List.set_cons_zero, List.set_cons_succ]))
  refine wpAnyH_done (by kernel_rfl) ?_ _
  clear hHeld m0 m1 m2 m3 l0 l1 l2
  have hB9 := Lw.bt hBW (Lw.sm_bel hS1)
  have c5 := Lw.blk_cell BE1.out 4
  have B19 := Lib.hid (((Lw.sm_bel hS1).block _ g1).trans B1.out)
  have l0 := Lw.blk_cell B19.out 0; have l1 := Lw.blk_cell B19.out 1; have l2 := Lw.blk_cell B19.out 2
  simp at c5 l0 l1 l2
  have hzn := (Lw.sm_bel hS1).size
  go_wp2
  refine wp_region_held_drew (S := fun w' => w'.cell? ⟨w.heap.size + 1 + 1, 4, none⟩ = some (.int .i64 E)) (by kernel_rfl) (by exact c5) (fun hHeld => ?_)
  refine Lw.take1 (i := 0) (v := ?_) rfl (by kernel_rfl) (by kernel_rfl) (by kernel_rfl) (fun _ _ _ h => h) (Or.inl ⟨by rfl, ?_⟩) (by assumption) ?_
  rotate_left 1
  · (intro wS hSw; (try dsimp only at hSw); go_simp <;> with_reducible rfl)
  (try simp only [Act.put, List.setIfInBounds_toArray, List.set_cons_zero, List.set_cons_succ])
  refine Lw.take1 (i := 1) (v := ?_) rfl (by kernel_rfl) (by kernel_rfl) (by kernel_rfl) (fun _ _ _ h => h) (Or.inl ⟨by rfl, ?_⟩) (by assumption) ?_
  rotate_left 1
  · (intro wS hSw; (try dsimp only at hSw); go_simp <;> with_reducible rfl)
  (try simp only [Act.put, List.setIfInBounds_toArray, List.set_cons_zero, List.set_cons_succ])
  refine Lw.take1 (i := 2) (v := ?_) rfl (by kernel_rfl) (by kernel_rfl) (by kernel_rfl) (fun _ _ _ h => h) (Or.inl ⟨by rfl, ?_⟩) (by assumption) ?_
  rotate_left 1
  · (intro wS hSw; (try dsimp only at hSw); go_simp <;> with_reducible rfl)
  (try simp only [Act.put, List.setIfInBounds_toArray, List.set_cons_zero, List.set_cons_succ])
  refine Lw.take1 (i := 3) (v := ?_) rfl (by kernel_rfl) (by kernel_rfl) (by kernel_rfl) (fun _ _ _ h => h) (Or.inl ⟨by rfl, ?_⟩) (by assumption) ?_
  rotate_left 1
  · (intro wS hSw; (try dsimp only at hSw); go_simp <;> with_reducible rfl)
  (try simp only [Act.put, List.setIfInBounds_toArray, List.set_cons_zero, List.set_cons_succ])
  refine Lw.take1 (i := 4) (v := ?_) rfl (by kernel_rfl) (by kernel_rfl) (by kernel_rfl) (fun _ _ _ h => h) (Or.inl ⟨by rfl, ?_⟩) (by assumption) ?_
  rotate_left 1
  · (intro wS hSw; (try dsimp only at hSw); go_simp <;> with_reducible rfl)
  (try simp only [Act.put, List.setIfInBounds_toArray, List.set_cons_zero, List.set_cons_succ])
  refine Lw.take1 (i := 5) (v := ?_) rfl (by kernel_rfl) (by kernel_rfl) (by kernel_rfl) (fun _ _ _ h => h) (Or.inl ⟨by rfl, ?_⟩) (by assumption) ?_
  rotate_left 1
  · (intro wS hSw; (try dsimp only at hSw); go_simp <;> with_reducible rfl)
  (try simp only [Act.put, List.setIfInBounds_toArray, List.set_cons_zero, List.set_cons_succ])
  refine wpAnyH_done (by kernel_rfl) ?_ _
  go_wp2
  go_ret2
  exact ⟨rfl, Below.drew hB9⟩
set_option maxHeartbeats 4000000 in
theorem shake_Finish_bad2 (P Q G H k x rE rT rK E : Int) (w : World) (E1_G : Lw.askE P Q G H [k] [G] = 0) (E1_x : Lw.askE P Q G H [k] [x] = E) (hn : (E != 0) = true) :
    Calls Try.prog 33 #[.agg #[.int .i64 P, .int .i64 Q, .int .i64 G, .int .i64 H], .int .i64 k, .int .i64 x, .agg #[.int .i64 rE, .int .i64 rT, .int .i64 rK]] w fun e w' => e = .returned (.tuple #[.int .i64 0, .int .i64 E]) ∧ Below w.heap.size w w' := by
  obtain ⟨W0, hW0⟩ : ∃ W, (w.alloc (.cells #[.int .i64 P, .int .i64 Q, .int .i64 G, .int .i64 H] 23)).alloc (.cells #[.int .i64 rE, .int .i64 rT, .int .i64 rK] 52) = W := ⟨_, rfl⟩
  have B0 := Lib.hid (show W0.heap[w.heap.size]? = some (.cells #[.int .i64 P, .int .i64 Q, .int .i64 G, .int .i64 H] 23 (0, 0)) from hW0 ▸ Lw.blk_alloc (Lw.blk_new _ _ _) _)
  have B1 := Lib.hid (show W0.heap[w.heap.size + 1]? = some (.cells #[.int .i64 rE, .int .i64 rT, .int .i64 rK] 52 (0, 0)) from hW0 ▸ Lw.blk_new' (by simp) _ _)
  have hBW : Below w.heap.size w W0 := by rw [← hW0]; (repeat (first | exact Below.refl _ _ | refine Lw.bt ?_ (by assumption) | refine Lw.balloc ?_ _ | refine Lw.bdrewN ?_ _ | refine Below.drew ?_ | refine Lw.bset ?_ (by first | (simp; done) | (simp; omega) | omega) _))
  have z1 : W0.heap.size ≤ w.heap.size + 1 + 1 := by rw [← hW0]; simp
  have z2 : w.heap.size + 1 + 1 ≤ W0.heap.size := by rw [← hW0]; simp
  have HZ : Hid (W0.heap.size = w.heap.size + 1 + 1) := by show _ = _; omega
  have HW0 := Lib.hid hW0
  clear hW0
  have g0 : w.heap.size < W0.heap.size := by omega
  have g1 : w.heap.size + 1 < W0.heap.size := by omega
  have m0 := Lw.blk_cell B0.out 0; have m1 := Lw.blk_cell B0.out 1; have m2 := Lw.blk_cell B0.out 2; have m3 := Lw.blk_cell B0.out 3
  have l0 := Lw.blk_cell B1.out 0; have l1 := Lw.blk_cell B1.out 1; have l2 := Lw.blk_cell B1.out 2
  simp at m0 m1 m2 m3 l0 l1 l2
  have SK := Lib.hid (fun (k x : Int) (b : Nat) (w : World) hb => shake_shared_skip P Q G H k x E b w hb hn)
  go_enter Try.func33, Try.ntmps33
  go_wp2_with fail
  rw [HW0.out]
  have hS0 : Lw.Sm W0 (W0.alloc (.cells #[.int .i64 P, .int .i64 Q, .int .i64 G, .int .i64 H, .int .i64 0] 89)).drew := Lw.sm_of (Below.drew (Lw.balloc (Below.refl _ _) _))
  have BE0 := Lib.hid (Lw.blk_drew (Lw.blk_new' HZ.out #[.int .i64 P, .int .i64 Q, .int .i64 G, .int .i64 H, .int .i64 0] 89))
  refine wp_region_held_drew (S := Lw.Sm W0) (by kernel_rfl) hS0 (fun hHeld => ?_)
  (refine Lw.take1 (i := 0) (v := ?_) rfl (by kernel_rfl) (by kernel_rfl) (by kernel_rfl) (fun _ _ _ h => h) (Or.inl ⟨by rfl, ?_⟩) (by assumption) ?_; rotate_left 1; (focus (intro wS hSw; obtain ⟨hS1, hS2, hS3, hS4⟩ := hSw; go_simp <;> with_reducible rfl)); (try simp only [Act.put, List.setIfInBounds_toArray, List.set_cons_zero, List.set_cons_succ]))
  (refine Lw.take1 (i := 1) (v := ?_) rfl (by kernel_rfl) (by kernel_rfl) (by kernel_rfl) (fun _ _ _ h => h) (Or.inl ⟨by rfl, ?_⟩) (by assumption) ?_; rotate_left 1; (focus (intro wS hSw; obtain ⟨hS1, hS2, hS3, hS4⟩ := hSw; go_simp <;> with_reducible rfl)); (try simp only [Act.put, List.setIfInBounds_toArray, List.set_cons_zero, List.set_cons_succ]))
  (refine Lw.take1 (i := 2) (v := ?_) rfl (by kernel_rfl) (by kernel_rfl) (by kernel_rfl) (fun _ _ _ h => h) (Or.inl ⟨by rfl, ?_⟩) (by assumption) ?_; rotate_left 1; (focus (intro wS hSw; obtain ⟨hS1, hS2, hS3, hS4⟩ := hSw; go_simp <;> with_reducible rfl)); (try simp only [Act.put, List.setIfInBounds_toArray, List.set_cons_zero, List.set_cons_succ]))
  (refine Lw.take1 (i := 3) (v := ?_) rfl (by kernel_rfl) (by kernel_rfl) (by kernel_rfl) (fun _ _ _ h => h) (Or.inl ⟨by rfl, ?_⟩) (by assumption) ?_; rotate_left 1; (focus (intro wS hSw; obtain ⟨hS1, hS2, hS3, hS4⟩ := hSw; go_simp <;> with_reducible rfl)); (try simp only [Act.put, List.setIfInBounds_toArray, List.set_cons_zero, List.set_cons_succ]))
  (refine Lw.take1 (i := 5) (v := ?_) rfl (by kernel_rfl) (by kernel_rfl) (by kernel_rfl) (fun _ _ _ h => h) (Or.inl ⟨by rfl, ?_⟩) (by assumption) ?_; rotate_left 1; (focus (intro wS hSw; obtain ⟨hS1, hS2, hS3, hS4⟩ := hSw; go_simp <;> with_reducible rfl)); (try simp only [Act.put, List.setIfInBounds_toArray, List.set_cons_zero, List.set_cons_succ]))
  (refine Lw.take1 (i := 6) (v := ?_) rfl (by kernel_rfl) (by kernel_rfl) (by kernel_rfl) (fun _ _ _ h => h) (Or.inl ⟨by rfl, ?_⟩) (by assumption) ?_; rotate_left 1; (focus (intro wS hSw; obtain ⟨hS1, hS2, hS3, hS4⟩ := hSw; go_simp <;> with_reducible rfl)); (try simp only [Act.put, List.setIfInBounds_toArray, List.set_cons_zero, List.set_cons_succ]))
  (refine Lw.take1 (i := 7) (v := ?_) rfl (by kernel_rfl) (by kernel_rfl) (by kernel_rfl) (fun _ _ _ h => h) (Or.inl ⟨by rfl, ?_⟩) (by assumption) ?_; rotate_left 1; (focus (intro wS hSw; obtain ⟨hS1, hS2, hS3, hS4⟩ := hSw; go_simp <;> with_reducible rfl)); (try simp only [Act.put, List.setIfInBounds_toArray, List.set_cons_zero, List.set_cons_succ]))
  (refine Lw.take1 (i := 9) (v := ?_) rfl (by kernel_rfl) (by kernel_rfl) (by kernel_rfl) (fun _ _ _ h => h) (Or.inl ⟨by rfl, ?_⟩) (by assumption) ?_; rotate_left 1; (focus (intro wS hSw; obtain ⟨hS1, hS2, hS3, hS4⟩ := hSw; go_simp <;> with_reducible rfl)); (try simp only [Act.put, List.setIfInBounds_toArray, List.set_cons_zero, List.set_cons_succ]))
  (refine Lw.take1 (i := 10) (v := ?_) rfl (by kernel_rfl) (by kernel_rfl) (by kernel_rfl) (fun _ _ _ h => h) (Or.inl ⟨by rfl, ?_⟩) (by assumption) ?_; rotate_left 1; (focus (intro wS hSw; obtain ⟨hS1, hS2, hS3, hS4⟩ := hSw; go_simp <;> with_reducible rfl)); (try simp only [Act.put, List.setIfInBounds_toArray, List.set_cons_zero, List.set_cons_succ]))
  (refine Lw.take1 (i := 11) (v := ?_) rfl (by kernel_rfl) (by kernel_rfl) (by kernel_rfl) (fun _ _ _ h => h) (Or.inl ⟨by rfl, ?_⟩) (by assumption) ?_; rotate_left 1; (focus (intro wS hSw; obtain ⟨hS1, hS2, hS3, hS4⟩ := hSw; go_simp <;> with_reducible rfl)); (try simp only [Act.put, List.setIfInBounds_toArray, List.set_cons_zero, List.set_cons_succ]))
  (refine Lw.take1 (i := 12) (v := ?_) rfl (by kernel_rfl) (by kernel_rfl) (by kernel_rfl) (fun _ _ _ h => h) (Or.inl ⟨by rfl, ?_⟩) (by assumption) ?_; rotate_left 1; (focus (intro wS hSw; obtain ⟨hS1, hS2, hS3, hS4⟩ := hSw; go_simp <;> with_reducible rfl)); (try simp only [Act.put, List.setIfInBounds_toArray, List.set_cons_zero, List.set_cons_succ]))
  (refine wpAnyH_ready (rs := [4]) (by kernel_rfl) (by simp) ?_; refine Lw.cons1 (i := 4) rfl (fun K hK => ?_) AllReadyH.nil; go_simp; go_at_call 48; (with_reducible refine (shake_shared_ok P Q G H k G _ _ BE0.out E1_G).mono ?_); rintro e w1 ⟨rfl, hb1⟩; refine hK.out _ _ ?_ (fun hHeld => ?_); (focus exact Lw.sm_keep hS0 hb1); clear hK K; (try simp only [Act.put, List.setIfInBounds_toArray, List.set_cons_zero, List.set_cons_succ]))
  have hS1 := Lw.sm_keep hS0 hb1
  have BE1 := Lib.hid ((hb1.block _ (Lw.blk_lt BE0.out)).trans BE0.out)
  clear hb1
  (refine wpAnyH_ready (rs := [8]) (by kernel_rfl) (by simp) ?_; refine Lw.cons1 (i := 8) rfl (fun K hK => ?_) AllReadyH.nil; go_simp; go_at_call 48; (with_reducible refine (shake_shared_bad P Q G H k x E _ _ BE1.out E1_x hn).mono ?_); rintro e w2 ⟨rfl, hB2, hb2⟩; refine hK.out _ _ ?_ (fun hHeld => ?_); (focus exact Lw.sm_of ((Lw.sm_bel hS1).trans (hb2.mono z1))); clear hK K; (try simp only [Act.put, List.setIfInBounds_toArray, List.set_cons_zero, List.set_cons_succ]))
  have hS2 := Lw.sm_of ((Lw.sm_bel hS1).trans (hb2.mono z1))
  have BE2 := Lib.hid hB2
  clear hb2 hB2
  (refine wpAnyH_ready (rs := [13]) (by kernel_rfl) (by simp) ?_; refine Lw.cons1 (i := 13) rfl (fun K hK => ?_) AllReadyH.nil; go_simp; go_at_call 48; (with_reducible refine (SK.out k rE _ _ BE2.out).mono ?_); rintro e wx ⟨rfl, rfl⟩; refine hK.out _ _ ?_ (fun hHeld => ?_); (focus exact hS2); clear hK K; (try simp only [Act.put, List.setIfInBounds_toArray, List.set_cons_zero, List.set_cons_succ]))
  (refine Lw.take1 (i := 14) (v := ?_) rfl (by kernel_rfl) (by kernel_rfl) (by kernel_rfl) (fun _ _ _ h => h) (Or.inl ⟨by rfl, ?_⟩) (by assumption) ?_; rotate_left 1; (focus (intro wS hSw; obtain ⟨hS1, hS2, hS3, hS4⟩ := hSw; go_simp <;> with_reducible rfl)); (try simp only [Act.put, List.setIfInBounds_toArray, List.set_cons_zero, List.set_cons_succ]))
  (refine Lw.take1 (i := 15) (v := ?_) rfl (by kernel_rfl) (by kernel_rfl) (by kernel_rfl) (fun _ _ _ h => h) (Or.inl ⟨by rfl, ?_⟩) (by assumption) ?_; rotate_left 1; (focus (intro wS hSw; obtain ⟨hS1, hS2, hS3, hS4⟩ := hSw; go_simp <;> with_reducible rfl)); (try simp only [Act.put, List.setIfInBounds_toArray, List.set_cons_zero, List.set_cons_succ]))
  (refine Lw.take1 (i := 16) (v := ?_) rfl (by kernel_rfl) (by kernel_rfl) (by kernel_rfl) (fun _ _ _ h => h) (Or.inl ⟨by rfl, ?_⟩) (by assumption) ?_; rotate_left 1; (focus (intro wS hSw; obtain ⟨hS1, hS2, hS3, hS4⟩ := hSw; go_simp <;> with_reducible rfl)); (try simp only [Act.put, List.setIfInBounds_toArray, List.set_cons_zero, List.set_cons_succ]))
  refine wpAnyH_done (by kernel_rfl) ?_ _
  clear hHeld m0 m1 m2 m3 l0 l1 l2
  have hB9 := Lw.bt hBW (Lw.sm_bel hS2)
  have c5 := Lw.blk_cell BE2.out 4
  have B19 := Lib.hid (((Lw.sm_bel hS2).block _ g1).trans B1.out)
  have l0 := Lw.blk_cell B19.out 0; have l1 := Lw.blk_cell B19.out 1; have l2 := Lw.blk_cell B19.out 2
  simp at c5 l0 l1 l2
  have hzn := (Lw.sm_bel hS2).size
  go_wp2
  refine wp_region_held_drew (S := fun w' => w'.cell? ⟨w.heap.size + 1 + 1, 4, none⟩ = some (.int .i64 E)) (by kernel_rfl) (by exact c5) (fun hHeld => ?_)
  refine Lw.take1 (i := 0) (v := ?_) rfl (by kernel_rfl) (by kernel_rfl) (by kernel_rfl) (fun _ _ _ h => h) (Or.inl ⟨by rfl, ?_⟩) (by assumption) ?_
  rotate_left 1
  · (intro wS hSw; (try dsimp only at hSw); go_simp <;> with_reducible rfl)
  (try simp only [Act.put, List.setIfInBounds_toArray, List.set_cons_zero, List.set_cons_succ])
  refine Lw.take1 (i := 1) (v := ?_) rfl (by kernel_rfl) (by kernel_rfl) (by kernel_rfl) (fun _ _ _ h => h) (Or.inl ⟨by rfl, ?_⟩) (by assumption) ?_
  rotate_left 1
  · (intro wS hSw; (try dsimp only at hSw); go_simp <;> with_reducible rfl)
  (try simp only [Act.put, List.setIfInBounds_toArray, List.set_cons_zero, List.set_cons_succ])
  refine Lw.take1 (i := 2) (v := ?_) rfl (by kernel_rfl) (by kernel_rfl) (by kernel_rfl) (fun _ _ _ h => h) (Or.inl ⟨by rfl, ?_⟩) (by assumption) ?_
  rotate_left 1
  · (intro wS hSw; (try dsimp only at hSw); go_simp <;> with_reducible rfl)
  (try simp only [Act.put, List.setIfInBounds_toArray, List.set_cons_zero, List.set_cons_succ])
  refine Lw.take1 (i := 3) (v := ?_) rfl (by kernel_rfl) (by kernel_rfl) (by kernel_rfl) (fun _ _ _ h => h) (Or.inl ⟨by rfl, ?_⟩) (by assumption) ?_
  rotate_left 1
  · (intro wS hSw; (try dsimp only at hSw); go_simp <;> with_reducible rfl)
  (try simp only [Act.put, List.setIfInBounds_toArray, List.set_cons_zero, List.set_cons_succ])
  refine Lw.take1 (i := 4) (v := ?_) rfl (by kernel_rfl) (by kernel_rfl) (by kernel_rfl) (fun _ _ _ h => h) (Or.inl ⟨by rfl, ?_⟩) (by assumption) ?_
  rotate_left 1
  · (intro wS hSw; (try dsimp only at hSw); go_simp <;> with_reducible rfl)
  (try simp only [Act.put, List.setIfInBounds_toArray, List.set_cons_zero, List.set_cons_succ])
  refine Lw.take1 (i := 5) (v := ?_) rfl (by kernel_rfl) (by kernel_rfl) (by kernel_rfl) (fun _ _ _ h => h) (Or.inl ⟨by rfl, ?_⟩) (by assumption) ?_
  rotate_left 1
  · (intro wS hSw; (try dsimp only at hSw); go_simp <;> with_reducible rfl)
  (try simp only [Act.put, List.setIfInBounds_toArray, List.set_cons_zero, List.set_cons_succ])
  refine wpAnyH_done (by kernel_rfl) ?_ _
  go_wp2
  go_ret2
  exact ⟨rfl, Below.drew hB9⟩
set_option maxHeartbeats 4000000 in
theorem shake_Finish_bad3 (P Q G H k x rE rT rK E : Int) (w : World) (E1_G : Lw.askE P Q G H [k] [G] = 0) (E1_x : Lw.askE P Q G H [k] [x] = 0) (E1_rE : Lw.askE P Q G H [k] [rE] = E) (hn : (E != 0) = true) :
    Calls Try.prog 33 #[.agg #[.int .i64 P, .int .i64 Q, .int .i64 G, .int .i64 H], .int .i64 k, .int .i64 x, .agg #[.int .i64 rE, .int .i64 rT, .int .i64 rK]] w fun e w' => e = .returned (.tuple #[.int .i64 0, .int .i64 E]) ∧ Below w.heap.size w w' := by
  obtain ⟨W0, hW0⟩ : ∃ W, (w.alloc (.cells #[.int .i64 P, .int .i64 Q, .int .i64 G, .int .i64 H] 23)).alloc (.cells #[.int .i64 rE, .int .i64 rT, .int .i64 rK] 52) = W := ⟨_, rfl⟩
  have B0 := Lib.hid (show W0.heap[w.heap.size]? = some (.cells #[.int .i64 P, .int .i64 Q, .int .i64 G, .int .i64 H] 23 (0, 0)) from hW0 ▸ Lw.blk_alloc (Lw.blk_new _ _ _) _)
  have B1 := Lib.hid (show W0.heap[w.heap.size + 1]? = some (.cells #[.int .i64 rE, .int .i64 rT, .int .i64 rK] 52 (0, 0)) from hW0 ▸ Lw.blk_new' (by simp) _ _)
  have hBW : Below w.heap.size w W0 := by rw [← hW0]; (repeat (first | exact Below.refl _ _ | refine Lw.bt ?_ (by assumption) | refine Lw.balloc ?_ _ | refine Lw.bdrewN ?_ _ | refine Below.drew ?_ | refine Lw.bset ?_ (by first | (simp; done) | (simp; omega) | omega) _))
  have z1 : W0.heap.size ≤ w.heap.size + 1 + 1 := by rw [← hW0]; simp
  have z2 : w.heap.size + 1 + 1 ≤ W0.heap.size := by rw [← hW0]; simp
  have HZ : Hid (W0.heap.size = w.heap.size + 1 + 1) := by show _ = _; omega
  have HW0 := Lib.hid hW0
  clear hW0
  have g0 : w.heap.size < W0.heap.size := by omega
  have g1 : w.heap.size + 1 < W0.heap.size := by omega
  have m0 := Lw.blk_cell B0.out 0; have m1 := Lw.blk_cell B0.out 1; have m2 := Lw.blk_cell B0.out 2; have m3 := Lw.blk_cell B0.out 3
  have l0 := Lw.blk_cell B1.out 0; have l1 := Lw.blk_cell B1.out 1; have l2 := Lw.blk_cell B1.out 2
  simp at m0 m1 m2 m3 l0 l1 l2
  have SK := Lib.hid (fun (k x : Int) (b : Nat) (w : World) hb => shake_shared_skip P Q G H k x E b w hb hn)
  go_enter Try.func33, Try.ntmps33
  go_wp2_with fail
  rw [HW0.out]
  have hS0 : Lw.Sm W0 (W0.alloc (.cells #[.int .i64 P, .int .i64 Q, .int .i64 G, .int .i64 H, .int .i64 0] 89)).drew := Lw.sm_of (Below.drew (Lw.balloc (Below.refl _ _) _))
  have BE0 := Lib.hid (Lw.blk_drew (Lw.blk_new' HZ.out #[.int .i64 P, .int .i64 Q, .int .i64 G, .int .i64 H, .int .i64 0] 89))
  refine wp_region_held_drew (S := Lw.Sm W0) (by kernel_rfl) hS0 (fun hHeld => ?_)
  (refine Lw.take1 (i := 0) (v := ?_) rfl (by kernel_rfl) (by kernel_rfl) (by kernel_rfl) (fun _ _ _ h => h) (Or.inl ⟨by rfl, ?_⟩) (by assumption) ?_; rotate_left 1; (focus (intro wS hSw; obtain ⟨hS1, hS2, hS3, hS4⟩ := hSw; go_simp <;> with_reducible rfl)); (try simp only [Act.put, List.setIfInBounds_toArray, List.set_cons_zero, List.set_cons_succ]))
  (refine Lw.take1 (i := 1) (v := ?_) rfl (by kernel_rfl) (by kernel_rfl) (by kernel_rfl) (fun _ _ _ h => h) (Or.inl ⟨by rfl, ?_⟩) (by assumption) ?_; rotate_left 1; (focus (intro wS hSw; obtain ⟨hS1, hS2, hS3, hS4⟩ := hSw; go_simp <;> with_reducible rfl)); (try simp only [Act.put, List.setIfInBounds_toArray, List.set_cons_zero, List.set_cons_succ]))
  (refine Lw.take1 (i := 2) (v := ?_) rfl (by kernel_rfl) (by kernel_rfl) (by kernel_rfl) (fun _ _ _ h => h) (Or.inl ⟨by rfl, ?_⟩) (by assumption) ?_; rotate_left 1; (focus (intro wS hSw; obtain ⟨hS1, hS2, hS3, hS4⟩ := hSw; go_simp <;> with_reducible rfl)); (try simp only [Act.put, List.setIfInBounds_toArray, List.set_cons_zero, List.set_cons_succ]))
  (refine Lw.take1 (i := 3) (v := ?_) rfl (by kernel_rfl) (by kernel_rfl) (by kernel_rfl) (fun _ _ _ h => h) (Or.inl ⟨by rfl, ?_⟩) (by assumption) ?_; rotate_left 1; (focus (intro wS hSw; obtain ⟨hS1, hS2, hS3, hS4⟩ := hSw; go_simp <;> with_reducible rfl)); (try simp only [Act.put, List.setIfInBounds_toArray, List.set_cons_zero, List.set_cons_succ]))
  (refine Lw.take1 (i := 5) (v := ?_) rfl (by kernel_rfl) (by kernel_rfl) (by kernel_rfl) (fun _ _ _ h => h) (Or.inl ⟨by rfl, ?_⟩) (by assumption) ?_; rotate_left 1; (focus (intro wS hSw; obtain ⟨hS1, hS2, hS3, hS4⟩ := hSw; go_simp <;> with_reducible rfl)); (try simp only [Act.put, List.setIfInBounds_toArray, List.set_cons_zero, List.set_cons_succ]))
  (refine Lw.take1 (i := 6) (v := ?_) rfl (by kernel_rfl) (by kernel_rfl) (by kernel_rfl) (fun _ _ _ h => h) (Or.inl ⟨by rfl, ?_⟩) (by assumption) ?_; rotate_left 1; (focus (intro wS hSw; obtain ⟨hS1, hS2, hS3, hS4⟩ := hSw; go_simp <;> with_reducible rfl)); (try simp only [Act.put, List.setIfInBounds_toArray, List.set_cons_zero, List.set_cons_succ]))
  (refine Lw.take1 (i := 7) (v := ?_) rfl (by kernel_rfl) (by kernel_rfl) (by kernel_rfl) (fun _ _ _ h => h) (Or.inl ⟨by rfl, ?_⟩) (by assumption) ?_; rotate_left 1; (focus (intro wS hSw; obtain ⟨hS1, hS2, hS3, hS4⟩ := hSw; go_simp <;> with_reducible rfl)); (try simp only [Act.put, List.setIfInBounds_toArray, List.set_cons_zero, List.set_cons_succ]))
  (refine Lw.take1 (i := 9) (v := ?_) rfl (by kernel_rfl) (by kernel_rfl) (by kernel_rfl) (fun _ _ _ h => h) (Or.inl ⟨by rfl, ?_⟩) (by assumption) ?_; rotate_left 1; (focus (intro wS hSw; obtain ⟨hS1, hS2, hS3, hS4⟩ := hSw; go_simp <;> with_reducible rfl)); (try simp only [Act.put, List.setIfInBounds_toArray, List.set_cons_zero, List.set_cons_succ]))
  (refine Lw.take1 (i := 10) (v := ?_) rfl (by kernel_rfl) (by kernel_rfl) (by kernel_rfl) (fun _ _ _ h => h) (Or.inl ⟨by rfl, ?_⟩) (by assumption) ?_; rotate_left 1; (focus (intro wS hSw; obtain ⟨hS1, hS2, hS3, hS4⟩ := hSw; go_simp <;> with_reducible rfl)); (try simp only [Act.put, List.setIfInBounds_toArray, List.set_cons_zero, List.set_cons_succ]))
  (refine Lw.take1 (i := 11) (v := ?_) rfl (by kernel_rfl) (by kernel_rfl) (by kernel_rfl) (fun _ _ _ h => h) (Or.inl ⟨by rfl, ?_⟩) (by assumption) ?_; rotate_left 1; (focus (intro wS hSw; obtain ⟨hS1, hS2, hS3, hS4⟩ := hSw; go_simp <;> with_reducible rfl)); (try simp only [Act.put, List.setIfInBounds_toArray, List.set_cons_zero, List.set_cons_succ]))
  (refine Lw.take1 (i := 12) (v := ?_) rfl (by kernel_rfl) (by kernel_rfl) (by kernel_rfl) (fun _ _ _ h => h) (Or.inl ⟨by rfl, ?_⟩) (by assumption) ?_; rotate_left 1; (focus (intro wS hSw; obtain ⟨hS1, hS2, hS3, hS4⟩ := hSw; go_simp <;> with_reducible rfl)); (try simp only [Act.put, List.setIfInBounds_toArray, List.set_cons_zero, List.set_cons_succ]))
  (refine wpAnyH_ready (rs := [4]) (by kernel_rfl) (by simp) ?_; refine Lw.cons1 (i := 4) rfl (fun K hK => ?_) AllReadyH.nil; go_simp; go_at_call 48; (with_reducible refine (shake_shared_ok P Q G H k G _ _ BE0.out E1_G).mono ?_); rintro e w1 ⟨rfl, hb1⟩; refine hK.out _ _ ?_ (fun hHeld => ?_); (focus exact Lw.sm_keep hS0 hb1); clear hK K; (try simp only [Act.put, List.setIfInBounds_toArray, List.set_cons_zero, List.set_cons_succ]))
  have hS1 := Lw.sm_keep hS0 hb1
  have BE1 := Lib.hid ((hb1.block _ (Lw.blk_lt BE0.out)).trans BE0.out)
  clear hb1
  (refine wpAnyH_ready (rs := [8]) (by kernel_rfl) (by simp) ?_; refine Lw.cons1 (i := 8) rfl (fun K hK => ?_) AllReadyH.nil; go_simp; go_at_call 48; (with_reducible refine (shake_shared_ok P Q G H k x _ _ BE1.out E1_x).mono ?_); rintro e w2 ⟨rfl, hb2⟩; refine hK.out _ _ ?_ (fun hHeld => ?_); (focus exact Lw.sm_keep hS1 hb2); clear hK K; (try simp only [Act.put, List.setIfInBounds_toArray, List.set_cons_zero, List.set_cons_succ]))
  have hS2 := Lw.sm_keep hS1 hb2
  have BE2 := Lib.hid ((hb2.block _ (Lw.blk_lt BE1.out)).trans BE1.out)
  clear hb2
  (refine wpAnyH_ready (rs := [13]) (by kernel_rfl) (by simp) ?_; refine Lw.cons1 (i := 13) rfl (fun K hK => ?_) AllReadyH.nil; go_simp; go_at_call 48; (with_reducible refine (shake_shared_bad P Q G H k rE E _ _ BE2.out E1_rE hn).mono ?_); rintro e w3 ⟨rfl, hB3, hb3⟩; refine hK.out _ _ ?_ (fun hHeld => ?_); (focus exact Lw.sm_of ((Lw.sm_bel hS2).trans (hb3.mono z1))); clear hK K; (try simp only [Act.put, List.setIfInBounds_toArray, List.set_cons_zero, List.set_cons_succ]))
  have hS3 := Lw.sm_of ((Lw.sm_bel hS2).trans (hb3.mono z1))
  have BE3 := Lib.hid hB3
  clear hb3 hB3
  (refine Lw.take1 (i := 14) (v := ?_) rfl (by kernel_rfl) (by kernel_rfl) (by kernel_rfl) (fun _ _ _ h => h) (Or.inl ⟨by rfl, ?_⟩) (by assumption) ?_; rotate_left 1; (focus (intro wS hSw; obtain ⟨hS1, hS2, hS3, hS4⟩ := hSw; go_simp <;> with_reducible rfl)); (try simp only [Act.put, List.setIfInBounds_toArray, List.set_cons_zero, List.set_cons_succ]))
  (refine Lw.take1 (i := 15) (v := ?_) rfl (by kernel_rfl) (by kernel_rfl) (by kernel_rfl) (fun _ _ _ h => h) (Or.inl ⟨by rfl, ?_⟩) (by assumption) ?_; rotate_left 1; (focus (intro wS hSw; obtain ⟨hS1, hS2, hS3, hS4⟩ := hSw; go_simp <;> with_reducible rfl)); (try simp only [Act.put, List.setIfInBounds_toArray, List.set_cons_zero, List.set_cons_succ]))
  (refine Lw.take1 (i := 16) (v := ?_) rfl (by kernel_rfl) (by kernel_rfl) (by kernel_rfl) (fun _ _ _ h => h) (Or.inl ⟨by rfl, ?_⟩) (by assumption) ?_; rotate_left 1; (focus (intro wS hSw; obtain ⟨hS1, hS2, hS3, hS4⟩ := hSw; go_simp <;> with_reducible rfl)); (try simp only [Act.put, List.setIfInBounds_toArray, List.set_cons_zero, List.set_cons_succ]))
  refine wpAnyH_done (by kernel_rfl) ?_ _
  clear hHeld m0 m1 m2 m3 l0 l1 l2
  have hB9 := Lw.bt hBW (Lw.sm_bel hS3)
  have c5 := Lw.blk_cell BE3.out 4
  have B19 := Lib.hid (((Lw.sm_bel hS3).block _ g1).trans B1.out)
  have l0 := Lw.blk_cell B19.out 0; have l1 := Lw.blk_cell B19.out 1; have l2 := Lw.blk_cell B19.out 2
  simp at c5 l0 l1 l2
  have hzn := (Lw.sm_bel hS3).size
  go_wp2
  refine wp_region_held_drew (S := fun w' => w'.cell? ⟨w.heap.size + 1 + 1, 4, none⟩ = some (.int .i64 E)) (by kernel_rfl) (by exact c5) (fun hHeld => ?_)
  refine Lw.take1 (i := 0) (v := ?_) rfl (by kernel_rfl) (by kernel_rfl) (by kernel_rfl) (fun _ _ _ h => h) (Or.inl ⟨by rfl, ?_⟩) (by assumption) ?_
  rotate_left 1
  · (intro wS hSw; (try dsimp only at hSw); go_simp <;> with_reducible rfl)
  (try simp only [Act.put, List.setIfInBounds_toArray, List.set_cons_zero, List.set_cons_succ])
  refine Lw.take1 (i := 1) (v := ?_) rfl (by kernel_rfl) (by kernel_rfl) (by kernel_rfl) (fun _ _ _ h => h) (Or.inl ⟨by rfl, ?_⟩) (by assumption) ?_
  rotate_left 1
  · (intro wS hSw; (try dsimp only at hSw); go_simp <;> with_reducible rfl)
  (try simp only [Act.put, List.setIfInBounds_toArray, List.set_cons_zero, List.set_cons_succ])
  refine Lw.take1 (i := 2) (v := ?_) rfl (by kernel_rfl) (by kernel_rfl) (by kernel_rfl) (fun _ _ _ h => h) (Or.inl ⟨by rfl, ?_⟩) (by assumption) ?_
  rotate_left 1
  · (intro wS hSw; (try dsimp only at hSw); go_simp <;> with_reducible rfl)
  (try simp only [Act.put, List.setIfInBounds_toArray, List.set_cons_zero, List.set_cons_succ])
  refine Lw.take1 (i := 3) (v := ?_) rfl (by kernel_rfl) (by kernel_rfl) (by kernel_rfl) (fun _ _ _ h => h) (Or.inl ⟨by rfl, ?_⟩) (by assumption) ?_
  rotate_left 1
  · (intro wS hSw; (try dsimp only at hSw); go_simp <;> with_reducible rfl)
  (try simp only [Act.put, List.setIfInBounds_toArray, List.set_cons_zero, List.set_cons_succ])
  refine Lw.take1 (i := 4) (v := ?_) rfl (by kernel_rfl) (by kernel_rfl) (by kernel_rfl) (fun _ _ _ h => h) (Or.inl ⟨by rfl, ?_⟩) (by assumption) ?_
  rotate_left 1
  · (intro wS hSw; (try dsimp only at hSw); go_simp <;> with_reducible rfl)
  (try simp only [Act.put, List.setIfInBounds_toArray, List.set_cons_zero, List.set_cons_succ])
  refine Lw.take1 (i := 5) (v := ?_) rfl (by kernel_rfl) (by kernel_rfl) (by kernel_rfl) (fun _ _ _ h => h) (Or.inl ⟨by rfl, ?_⟩) (by assumption) ?_
  rotate_left 1
  · (intro wS hSw; (try dsimp only at hSw); go_simp <;> with_reducible rfl)
  (try simp only [Act.put, List.setIfInBounds_toArray, List.set_cons_zero, List.set_cons_succ])
  refine wpAnyH_done (by kernel_rfl) ?_ _
  go_wp2
  go_ret2
  exact ⟨rfl, Below.drew hB9⟩
theorem shake_Finish_bad (P Q G H k x rE rT rK E : Int) (w : World) (hE : Lw.askE P Q G H [k] [x, rE] = E) (hn : (E != 0) = true) :
    Calls Try.prog 33 #[.agg #[.int .i64 P, .int .i64 Q, .int .i64 G, .int .i64 H], .int .i64 k, .int .i64 x, .agg #[.int .i64 rE, .int .i64 rT, .int .i64 rK]] w fun e w' => e = .returned (.tuple #[.int .i64 0, .int .i64 E]) ∧ Below w.heap.size w w' := by
  rcases Lw.fin_bad hE (by simpa using hn) with h | ⟨h1, h2⟩ | ⟨h1, h2, h3⟩
  · exact shake_Finish_bad1 P Q G H k x rE rT rK E w h hn
  · exact shake_Finish_bad2 P Q G H k x rE rT rK E w h1 h2 hn
  · exact shake_Finish_bad3 P Q G H k x rE rT rK E w h1 h2 h3 hn
def finT (P G k x rE : Int) : List Int := Lw.textL [Lw.pw G k P, rE, x, Lw.pw x k P, Lw.pw rE k P]
def finRes (P G k x rE rT : Int) : Value := if Lw.hsum (2 :: finT P G k x rE) = rT then .tuple #[.int .i64 (Lw.hsum (1 :: finT P G k x rE)), .int .i64 0] else .tuple #[.int .i64 0, .int .i64 8]
set_option maxHeartbeats 4000000 in
theorem shake_Finish_ok (P Q G H k x rE rT rK : Int) (w : World) (hE : Lw.askE P Q G H [k] [x, rE] = 0) :
    Calls Try.prog 33 #[.agg #[.int .i64 P, .int .i64 Q, .int .i64 G, .int .i64 H], .int .i64 k, .int .i64 x, .agg #[.int .i64 rE, .int .i64 rT, .int .i64 rK]] w fun e w' => e = .returned (finRes P G k x rE rT) ∧ Below w.heap.size w w' := by
  obtain ⟨E1_G, E1_x, E1_rE⟩ := Lw.fin_zero hE
  obtain ⟨hg, _, hm⟩ := Lw.askE_ok hE
  obtain ⟨h1, h2, h3, h4, _⟩ := Lw.grp_facts hg
  obtain ⟨mx, hm2⟩ := Lw.msB_cons (ms := [rE]) hm
  obtain ⟨mr, _⟩ := Lw.msB_cons (ms := []) hm2
  obtain ⟨x1, x2, _⟩ := Lw.memB_bd mx
  obtain ⟨r1, r2, _⟩ := Lw.memB_bd mr
  obtain ⟨k1, k2⟩ := Lw.pw_bd G k P (by omega)
  obtain ⟨u1, u2⟩ := Lw.pw_bd x k P (by omega)
  obtain ⟨v1, v2⟩ := Lw.pw_bd rE k P (by omega)
  have hF : Hid (finT P G k x rE = Lw.textL [Lw.pw G k P, rE, x, Lw.pw x k P, Lw.pw rE k P]) := rfl
  have C1 := Lib.hid (fun (b : Nat) (w : World) hb => shake_shared_ok P Q G H k G b w hb E1_G)
  have C2 := Lib.hid (fun (b : Nat) (w : World) hb => shake_shared_ok P Q G H k x b w hb E1_x)
  have C3 := Lib.hid (fun (b : Nat) (w : World) hb => shake_shared_ok P Q G H k rE b w hb E1_rE)
  have hR : Hid (finRes P G k x rE rT = if Lw.hsum (2 :: finT P G k x rE) = rT then .tuple #[.int .i64 (Lw.hsum (1 :: finT P G k x rE)), .int .i64 0] else .tuple #[.int .i64 0, .int .i64 8]) := rfl
  rw [hF.out] at hR
  clear hE E1_G E1_x E1_rE hg hm hm2 mx mr hF
  generalize Lw.pw G k P = f at *
  generalize Lw.pw x k P = u at *
  generalize Lw.pw rE k P = v at *
  have TX := Lib.hid (fun (A : Option Addr) (c : Nat) (w : World) R => shake_text_five A c [f, rE, x, u, v] w R (by intro z hz; simp at hz; omega))
  have SU := Lib.hid (fun (A : Option Addr) (c : Nat) (w : World) R => shake_sums A 20 c (Lw.textL [f, rE, x, u, v]) w R (Lw.textL_byt _) (by omega))
  obtain ⟨t1, ht1⟩ : ∃ t, Lw.hsum (1 :: Lw.textL [f, rE, x, u, v]) = t := ⟨_, rfl⟩
  obtain ⟨t2, ht2⟩ : ∃ t, Lw.hsum (2 :: Lw.textL [f, rE, x, u, v]) = t := ⟨_, rfl⟩
  rw [ht1, ht2] at SU hR
  clear ht1 ht2
  obtain ⟨W0, hW0⟩ : ∃ W, (w.alloc (.cells #[.int .i64 P, .int .i64 Q, .int .i64 G, .int .i64 H] 23)).alloc (.cells #[.int .i64 rE, .int .i64 rT, .int .i64 rK] 52) = W := ⟨_, rfl⟩
  have B0 := Lib.hid (show W0.heap[w.heap.size]? = some (.cells #[.int .i64 P, .int .i64 Q, .int .i64 G, .int .i64 H] 23 (0, 0)) from hW0 ▸ Lw.blk_alloc (Lw.blk_new _ _ _) _)
  have B1 := Lib.hid (show W0.heap[w.heap.size + 1]? = some (.cells #[.int .i64 rE, .int .i64 rT, .int .i64 rK] 52 (0, 0)) from hW0 ▸ Lw.blk_new' (by simp) _ _)
  have hBW : Below w.heap.size w W0 := by rw [← hW0]; (repeat (first | exact Below.refl _ _ | refine Lw.bt ?_ (by assumption) | refine Lw.balloc ?_ _ | refine Lw.bdrewN ?_ _ | refine Below.drew ?_ | refine Lw.bset ?_ (by first | (simp; done) | (simp; omega) | omega) _))
  have z1 : W0.heap.size ≤ w.heap.size + 1 + 1 := by rw [← hW0]; simp
  have z2 : w.heap.size + 1 + 1 ≤ W0.heap.size := by rw [← hW0]; simp
  have HZ : Hid (W0.heap.size = w.heap.size + 1 + 1) := by show _ = _; omega
  have HW0 := Lib.hid hW0
  clear hW0
  have g0 : w.heap.size < W0.heap.size := by omega
  have g1 : w.heap.size + 1 < W0.heap.size := by omega
  have m0 := Lw.blk_cell B0.out 0; have m1 := Lw.blk_cell B0.out 1; have m2 := Lw.blk_cell B0.out 2; have m3 := Lw.blk_cell B0.out 3
  have l0 := Lw.blk_cell B1.out 0; have l1 := Lw.blk_cell B1.out 1; have l2 := Lw.blk_cell B1.out 2
  simp at m0 m1 m2 m3 l0 l1 l2
  go_enter Try.func33, Try.ntmps33
  go_wp2_with fail
  rw [HW0.out]
  have hS0 : Lw.Sm W0 (W0.alloc (.cells #[.int .i64 P, .int .i64 Q, .int .i64 G, .int .i64 H, .int .i64 0] 89)).drew := Lw.sm_of (Below.drew (Lw.balloc (Below.refl _ _) _))
  have BE0 := Lib.hid (Lw.blk_drew (Lw.blk_new' HZ.out #[.int .i64 P, .int .i64 Q, .int .i64 G, .int .i64 H, .int .i64 0] 89))
  refine wp_region_held_drew (S := Lw.Sm W0) (by kernel_rfl) hS0 (fun hHeld => ?_)
  (refine Lw.take1 (i := 0) (v := ?_) rfl (by kernel_rfl) (by kernel_rfl) (by kernel_rfl) (fun _ _ _ h => h) (Or.inl ⟨by rfl, ?_⟩) (by assumption) ?_; rotate_left 1; (focus (intro wS hSw; obtain ⟨hS1, hS2, hS3, hS4⟩ := hSw; go_simp <;> with_reducible rfl)); (try simp only [Act.put, List.setIfInBounds_toArray, List.set_cons_zero, List.set_cons_succ]))
  (refine Lw.take1 (i := 1) (v := ?_) rfl (by kernel_rfl) (by kernel_rfl) (by kernel_rfl) (fun _ _ _ h => h) (Or.inl ⟨by rfl, ?_⟩) (by assumption) ?_; rotate_left 1; (focus (intro wS hSw; obtain ⟨hS1, hS2, hS3, hS4⟩ := hSw; go_simp <;> with_reducible rfl)); (try simp only [Act.put, List.setIfInBounds_toArray, List.set_cons_zero, List.set_cons_succ]))
  (refine Lw.take1 (i := 2) (v := ?_) rfl (by kernel_rfl) (by kernel_rfl) (by kernel_rfl) (fun _ _ _ h => h) (Or.inl ⟨by rfl, ?_⟩) (by assumption) ?_; rotate_left 1; (focus (intro wS hSw; obtain ⟨hS1, hS2, hS3, hS4⟩ := hSw; go_simp <;> with_reducible rfl)); (try simp only [Act.put, List.setIfInBounds_toArray, List.set_cons_zero, List.set_cons_succ]))
  (refine Lw.take1 (i := 3) (v := ?_) rfl (by kernel_rfl) (by kernel_rfl) (by kernel_rfl) (fun _ _ _ h => h) (Or.inl ⟨by rfl, ?_⟩) (by assumption) ?_; rotate_left 1; (focus (intro wS hSw; obtain ⟨hS1, hS2, hS3, hS4⟩ := hSw; go_simp <;> with_reducible rfl)); (try simp only [Act.put, List.setIfInBounds_toArray, List.set_cons_zero, List.set_cons_succ]))
  (refine Lw.take1 (i := 5) (v := ?_) rfl (by kernel_rfl) (by kernel_rfl) (by kernel_rfl) (fun _ _ _ h => h) (Or.inl ⟨by rfl, ?_⟩) (by assumption) ?_; rotate_left 1; (focus (intro wS hSw; obtain ⟨hS1, hS2, hS3, hS4⟩ := hSw; go_simp <;> with_reducible rfl)); (try simp only [Act.put, List.setIfInBounds_toArray, List.set_cons_zero, List.set_cons_succ]))
  (refine Lw.take1 (i := 6) (v := ?_) rfl (by kernel_rfl) (by kernel_rfl) (by kernel_rfl) (fun _ _ _ h => h) (Or.inl ⟨by rfl, ?_⟩) (by assumption) ?_; rotate_left 1; (focus (intro wS hSw; obtain ⟨hS1, hS2, hS3, hS4⟩ := hSw; go_simp <;> with_reducible rfl)); (try simp only [Act.put, List.setIfInBounds_toArray, List.set_cons_zero, List.set_cons_succ]))
  (refine Lw.take1 (i := 7) (v := ?_) rfl (by kernel_rfl) (by kernel_rfl) (by kernel_rfl) (fun _ _ _ h => h) (Or.inl ⟨by rfl, ?_⟩) (by assumption) ?_; rotate_left 1; (focus (intro wS hSw; obtain ⟨hS1, hS2, hS3, hS4⟩ := hSw; go_simp <;> with_reducible rfl)); (try simp only [Act.put, List.setIfInBounds_toArray, List.set_cons_zero, List.set_cons_succ]))
  (refine Lw.take1 (i := 9) (v := ?_) rfl (by kernel_rfl) (by kernel_rfl) (by kernel_rfl) (fun _ _ _ h => h) (Or.inl ⟨by rfl, ?_⟩) (by assumption) ?_; rotate_left 1; (focus (intro wS hSw; obtain ⟨hS1, hS2, hS3, hS4⟩ := hSw; go_simp <;> with_reducible rfl)); (try simp only [Act.put, List.setIfInBounds_toArray, List.set_cons_zero, List.set_cons_succ]))
  (refine Lw.take1 (i := 10) (v := ?_) rfl (by kernel_rfl) (by kernel_rfl) (by kernel_rfl) (fun _ _ _ h => h) (Or.inl ⟨by rfl, ?_⟩) (by assumption) ?_; rotate_left 1; (focus (intro wS hSw; obtain ⟨hS1, hS2, hS3, hS4⟩ := hSw; go_simp <;> with_reducible rfl)); (try simp only [Act.put, List.setIfInBounds_toArray, List.set_cons_zero, List.set_cons_succ]))
  (refine Lw.take1 (i := 11) (v := ?_) rfl (by kernel_rfl) (by kernel_rfl) (by kernel_rfl) (fun _ _ _ h => h) (Or.inl ⟨by rfl, ?_⟩) (by assumption) ?_; rotate_left 1; (focus (intro wS hSw; obtain ⟨hS1, hS2, hS3, hS4⟩ := hSw; go_simp <;> with_reducible rfl)); (try simp only [Act.put, List.setIfInBounds_toArray, List.set_cons_zero, List.set_cons_succ]))
  (refine Lw.take1 (i := 12) (v := ?_) rfl (by kernel_rfl) (by kernel_rfl) (by kernel_rfl) (fun _ _ _ h => h) (Or.inl ⟨by rfl, ?_⟩) (by assumption) ?_; rotate_left 1; (focus (intro wS hSw; obtain ⟨hS1, hS2, hS3, hS4⟩ := hSw; go_simp <;> with_reducible rfl)); (try simp only [Act.put, List.setIfInBounds_toArray, List.set_cons_zero, List.set_cons_succ]))
  (refine wpAnyH_ready (rs := [4]) (by kernel_rfl) (by simp) ?_; refine Lw.cons1 (i := 4) rfl (fun K hK => ?_) AllReadyH.nil; go_simp; go_at_call 48; (with_reducible refine (C1.out _ _ BE0.out).mono ?_); rintro e w1 ⟨rfl, hb1⟩; refine hK.out _ _ ?_ (fun hHeld => ?_); (focus exact Lw.sm_keep hS0 hb1); clear hK K; (try simp only [Act.put, List.setIfInBounds_toArray, List.set_cons_zero, List.set_cons_succ]))
  have hS1 := Lw.sm_keep hS0 hb1
  have BE1 := Lib.hid ((hb1.block _ (Lw.blk_lt BE0.out)).trans BE0.out)
  clear hb1
  (refine wpAnyH_ready (rs := [8]) (by kernel_rfl) (by simp) ?_; refine Lw.cons1 (i := 8) rfl (fun K hK => ?_) AllReadyH.nil; go_simp; go_at_call 48; (with_reducible refine (C2.out _ _ BE1.out).mono ?_); rintro e w2 ⟨rfl, hb2⟩; refine hK.out _ _ ?_ (fun hHeld => ?_); (focus exact Lw.sm_keep hS1 hb2); clear hK K; (try simp only [Act.put, List.setIfInBounds_toArray, List.set_cons_zero, List.set_cons_succ]))
  have hS2 := Lw.sm_keep hS1 hb2
  have BE2 := Lib.hid ((hb2.block _ (Lw.blk_lt BE1.out)).trans BE1.out)
  clear hb2
  (refine wpAnyH_ready (rs := [13]) (by kernel_rfl) (by simp) ?_; refine Lw.cons1 (i := 13) rfl (fun K hK => ?_) AllReadyH.nil; go_simp; go_at_call 48; (with_reducible refine (C3.out _ _ BE2.out).mono ?_); rintro e w3 ⟨rfl, hb3⟩; refine hK.out _ _ ?_ (fun hHeld => ?_); (focus exact Lw.sm_keep hS2 hb3); clear hK K; (try simp only [Act.put, List.setIfInBounds_toArray, List.set_cons_zero, List.set_cons_succ]))
  have hS3 := Lw.sm_keep hS2 hb3
  have BE3 := Lib.hid ((hb3.block _ (Lw.blk_lt BE2.out)).trans BE2.out)
  clear hb3
  (refine Lw.take1 (i := 14) (v := ?_) rfl (by kernel_rfl) (by kernel_rfl) (by kernel_rfl) (fun _ _ _ h => h) (Or.inl ⟨by rfl, ?_⟩) (by assumption) ?_; rotate_left 1; (focus (intro wS hSw; obtain ⟨hS1, hS2, hS3, hS4⟩ := hSw; go_simp <;> with_reducible rfl)); (try simp only [Act.put, List.setIfInBounds_toArray, List.set_cons_zero, List.set_cons_succ]))
  (refine Lw.take1 (i := 15) (v := ?_) rfl (by kernel_rfl) (by kernel_rfl) (by kernel_rfl) (fun _ _ _ h => h) (Or.inl ⟨by rfl, ?_⟩) (by assumption) ?_; rotate_left 1; (focus (intro wS hSw; obtain ⟨hS1, hS2, hS3, hS4⟩ := hSw; go_simp <;> with_reducible rfl)); (try simp only [Act.put, List.setIfInBounds_toArray, List.set_cons_zero, List.set_cons_succ]))
  (refine Lw.take1 (i := 16) (v := ?_) rfl (by kernel_rfl) (by kernel_rfl) (by kernel_rfl) (fun _ _ _ h => h) (Or.inl ⟨by rfl, ?_⟩) (by assumption) ?_; rotate_left 1; (focus (intro wS hSw; obtain ⟨hS1, hS2, hS3, hS4⟩ := hSw; go_simp <;> with_reducible rfl)); (try simp only [Act.put, List.setIfInBounds_toArray, List.set_cons_zero, List.set_cons_succ]))
  refine wpAnyH_done (by kernel_rfl) ?_ _
  clear hHeld m0 m1 m2 m3 l0 l1 l2
  have hB9 := Lw.bt hBW (Lw.sm_bel hS3)
  have c5 := Lw.blk_cell BE3.out 4
  have B19 := Lib.hid (((Lw.sm_bel hS3).block _ g1).trans B1.out)
  have l0 := Lw.blk_cell B19.out 0; have l1 := Lw.blk_cell B19.out 1; have l2 := Lw.blk_cell B19.out 2
  simp at c5 l0 l1 l2
  have hzn := (Lw.sm_bel hS3).size
  by_cases ht : t2 = rT
  · have hR2 : Hid (finRes P G k x rE rT = .tuple #[.int .i64 t1, .int .i64 0]) := by show _ = _; rw [hR.out, if_pos ht]
    have ht1 : (t2 != rT) = false := by simpa using ht
    clear ht
    go_wp2_with (first | (go_at_call 50; (with_reducible refine (TX.out _ _ _ (by first | exact Lw.Rd.nil _ _ _ | exact Lw.Rd.lit (Lw.blk_new' (by simp) _ _) rfl rfl | exact Lw.Rd.lit (Lw.blk_alloc (Lw.blk_new' (by simp) _ _) _) rfl rfl)).mono ?_); rintro e w6 ⟨A6, c6, rfl, own6, hb6⟩) | (go_at_call 49; (with_reducible refine (SU.out _ _ _ (Lw.Rd.of_own own6)).mono ?_); rintro e w7 ⟨rfl, hb7⟩; have hz6 := hb6.size; have hz7 := hb7.size; simp at hz6; have B17 := Lib.hid ((hb7.block (w.heap.size + 1) (by omega)).trans ((hb6.block (w.heap.size + 1) (by simp; omega)).trans (Lw.blk_alloc B19.out _))); have j0 := Lw.blk_cell B17.out 0; have j1 := Lw.blk_cell B17.out 1; have j2 := Lw.blk_cell B17.out 2; simp at j0 j1 j2))
    go_ret2
    rw [hR2.out]
    exact ⟨rfl, Lw.bt (Lw.bt (Lw.balloc hB9 _) hb6) hb7⟩
  · have hR2 : Hid (finRes P G k x rE rT = .tuple #[.int .i64 0, .int .i64 8]) := by show _ = _; rw [hR.out, if_neg ht]
    have ht1 : (t2 != rT) = true := by simpa using ht
    clear ht
    go_wp2_with (first | (go_at_call 50; (with_reducible refine (TX.out _ _ _ (by first | exact Lw.Rd.nil _ _ _ | exact Lw.Rd.lit (Lw.blk_new' (by simp) _ _) rfl rfl | exact Lw.Rd.lit (Lw.blk_alloc (Lw.blk_new' (by simp) _ _) _) rfl rfl)).mono ?_); rintro e w6 ⟨A6, c6, rfl, own6, hb6⟩) | (go_at_call 49; (with_reducible refine (SU.out _ _ _ (Lw.Rd.of_own own6)).mono ?_); rintro e w7 ⟨rfl, hb7⟩; have hz6 := hb6.size; have hz7 := hb7.size; simp at hz6; have B17 := Lib.hid ((hb7.block (w.heap.size + 1) (by omega)).trans ((hb6.block (w.heap.size + 1) (by simp; omega)).trans (Lw.blk_alloc B19.out _))); have j0 := Lw.blk_cell B17.out 0; have j1 := Lw.blk_cell B17.out 1; have j2 := Lw.blk_cell B17.out 2; simp at j0 j1 j2))
    go_ret2
    rw [hR2.out]
    exact ⟨rfl, Lw.bt (Lw.bt (Lw.balloc hB9 _) hb6) hb7⟩
end Go.Proofs.Ytkjcpjbdckbjcaa

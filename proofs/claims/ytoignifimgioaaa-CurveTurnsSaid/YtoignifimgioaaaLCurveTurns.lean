/- The law CurveTurns: a spot's other side is the reference's, or the code. -/
import Derived.Test.YtoignifimgioaaaCrl
set_option linter.unusedVariables false
namespace Go.Proofs.Ytoignifimgioaaa.LW
open Go.RowKit
set_option maxHeartbeats 1000000 in
theorem CurveTurns_bad (P A B X Y : Int) (F : Bool) (w : World) (h : ¬ Lw.oneE P A B ⟨X, Y, F⟩ = 0) :
    Calls Try.prog 6 #[.agg #[.int .i64 P, .int .i64 A, .int .i64 B], .agg #[.int .i64 X, .int .i64 Y, .bool F]] w fun e w' => e = .returned (.bool true) ∧ Below w.heap.size w w' := by
  have N := fun w => curve_Neg_bad P A B X Y F w h
  have S := fun w => law_spot P A B X Y F w
  have h1 : (Lw.oneE P A B ⟨X, Y, F⟩ == 0) = false := by simpa using h
  obtain ⟨E, hE⟩ : ∃ E, Lw.oneE P A B ⟨X, Y, F⟩ = E := ⟨_, rfl⟩
  rw [hE] at N S h1
  replace N := Lib.hid N
  replace S := Lib.hid S
  clear h hE
  obtain ⟨W, hW⟩ : ∃ W, (w.alloc (.cells #[.int .i64 P, .int .i64 A, .int .i64 B] 32)).alloc (.cells #[.int .i64 X, .int .i64 Y, .bool F] 36) = W := ⟨_, rfl⟩
  have B0 := show W.heap[w.heap.size]? = some (.cells #[.int .i64 P, .int .i64 A, .int .i64 B] 32 (0, 0)) from hW ▸ Lw.blk_alloc (Lw.blk_new _ _ _) _
  have B1 := show W.heap[w.heap.size + 1]? = some (.cells #[.int .i64 X, .int .i64 Y, .bool F] 36 (0, 0)) from hW ▸ Lw.blk_new' (by simp) _ _
  have l0 := Lw.blk_cell B0 0; have l1 := Lw.blk_cell B0 1; have l2 := Lw.blk_cell B0 2
  have k0 := Lw.blk_cell B1 0; have k1 := Lw.blk_cell B1 1; have k2 := Lw.blk_cell B1 2
  simp at l0 l1 l2 k0 k1 k2
  have hBW : Below w.heap.size w W := by rw [← hW]; exact Lw.balloc (Lw.balloc (Below.refl _ _) _) _
  have hWs : w.heap.size < W.heap.size := by rw [← hW]; simp <;> omega
  have hWs1 : w.heap.size + 1 < W.heap.size := by rw [← hW]; simp
  have HW := Lib.hid hW
  have HB0 := Lib.hid B0
  have HB1 := Lib.hid B1
  clear hW B0 B1
  go_enter Try.func6, Try.ntmps6
  go_wp2_with (first | (go_at_call 22; (with_reducible refine (N.out _).mono ?_); rintro e w1 ⟨rfl, hb1⟩; obtain ⟨hc1, hf1⟩ := Lw.bcell hb1; have hz1 := hb1.size; (try simp at hz1); have hy1_00 : w.heap.size < w1.heap.size := (by omega); have hy1_01 : w.heap.size < w1.heap.size + 1 := (by omega); have hy1_02 : w.heap.size < w1.heap.size + 1 + 1 := (by omega); have hy1_10 : w.heap.size + 1 < w1.heap.size := (by omega); have hy1_11 : w.heap.size + 1 < w1.heap.size + 1 := (by omega); have hy1_12 : w.heap.size + 1 < w1.heap.size + 1 + 1 := (by omega)) | (go_at_call 23; (with_reducible refine (S.out _).mono ?_); rintro e w2 ⟨rfl, hb2⟩; obtain ⟨hc2, hf2⟩ := Lw.bcell hb2))
  go_ret
  exact ⟨by simp, by (repeat (first | exact Below.refl _ _ | refine Lw.bt ?_ (by assumption) | refine Lw.balloc ?_ _ | refine Lw.bdrewN ?_ _ | refine Below.drew ?_ | refine Lw.bset ?_ (by first | (simp; done) | (simp; omega) | omega) _))⟩
set_option maxHeartbeats 1000000 in
theorem CurveTurns_ok (P A B X Y : Int) (F : Bool) (w : World) (hc : Lw.crvE P A B = 0) (h : Lw.spotB P A B X Y F = true) :
    Calls Try.prog 6 #[.agg #[.int .i64 P, .int .i64 A, .int .i64 B], .agg #[.int .i64 X, .int .i64 Y, .bool F]] w fun e w' => e = .returned (.bool true) ∧ Below w.heap.size w w' := by
  have N := fun w => curve_Neg_ok P A B X Y F w hc h
  have S := fun w => law_spot P A B X Y F w
  rw [Lw.one_ok (s := ⟨X, Y, F⟩) hc h] at S
  have M := fun w => ref_SpotNeg P A B X Y F w (Lw.of_crv hc).1 h
  obtain ⟨X', hX'⟩ : ∃ v, (Lw.negT P ⟨X, Y, F⟩).X = v := ⟨_, rfl⟩
  obtain ⟨Y', hY'⟩ : ∃ v, (Lw.negT P ⟨X, Y, F⟩).Y = v := ⟨_, rfl⟩
  obtain ⟨F', hF'⟩ : ∃ v, (Lw.negT P ⟨X, Y, F⟩).F = v := ⟨_, rfl⟩
  have NV : (Lw.negT P ⟨X, Y, F⟩).v = .agg #[.int .i64 X', .int .i64 Y', .bool F'] := by unfold Lw.SpotT.v; rw [hX', hY', hF']
  rw [NV] at N M
  replace N := Lib.hid N
  replace S := Lib.hid S
  replace M := Lib.hid M
  clear h hc hX' hY' hF' NV
  obtain ⟨W, hW⟩ : ∃ W, (w.alloc (.cells #[.int .i64 P, .int .i64 A, .int .i64 B] 32)).alloc (.cells #[.int .i64 X, .int .i64 Y, .bool F] 36) = W := ⟨_, rfl⟩
  have B0 := show W.heap[w.heap.size]? = some (.cells #[.int .i64 P, .int .i64 A, .int .i64 B] 32 (0, 0)) from hW ▸ Lw.blk_alloc (Lw.blk_new _ _ _) _
  have B1 := show W.heap[w.heap.size + 1]? = some (.cells #[.int .i64 X, .int .i64 Y, .bool F] 36 (0, 0)) from hW ▸ Lw.blk_new' (by simp) _ _
  have l0 := Lw.blk_cell B0 0; have l1 := Lw.blk_cell B0 1; have l2 := Lw.blk_cell B0 2
  have k0 := Lw.blk_cell B1 0; have k1 := Lw.blk_cell B1 1; have k2 := Lw.blk_cell B1 2
  simp at l0 l1 l2 k0 k1 k2
  have hBW : Below w.heap.size w W := by rw [← hW]; exact Lw.balloc (Lw.balloc (Below.refl _ _) _) _
  have hWs : w.heap.size < W.heap.size := by rw [← hW]; simp <;> omega
  have hWs1 : w.heap.size + 1 < W.heap.size := by rw [← hW]; simp
  have HW := Lib.hid hW
  have HB0 := Lib.hid B0
  have HB1 := Lib.hid B1
  clear hW B0 B1
  go_enter Try.func6, Try.ntmps6
  go_wp2_with fail
  rw [HW.out]
  refine (N.out _).mono ?_
  rintro e w1 ⟨rfl, hb1⟩
  have q0 := (hb1.cell (p := ⟨w.heap.size, 0, none⟩) hWs).trans l0; have q1 := (hb1.cell (p := ⟨w.heap.size, 1, none⟩) hWs).trans l1; have q2 := (hb1.cell (p := ⟨w.heap.size, 2, none⟩) hWs).trans l2
  have q3 := (hb1.cell (p := ⟨w.heap.size + 1, 0, none⟩) hWs1).trans k0; have q4 := (hb1.cell (p := ⟨w.heap.size + 1, 1, none⟩) hWs1).trans k1; have q5 := (hb1.cell (p := ⟨w.heap.size + 1, 2, none⟩) hWs1).trans k2
  have hz1 := hb1.size
  have hy0 : w.heap.size < w1.heap.size := by omega
  have hy1 : w.heap.size + 1 < w1.heap.size := by omega
  go_wp2_with (go_at_call 23; (with_reducible refine (S.out _).mono ?_); rintro e w2 ⟨rfl, hb2⟩)
  have C0 := (hb2.block w.heap.size (by simp; omega)).trans (Lw.blk_alloc ((hb1.block w.heap.size hWs).trans HB0.out) _)
  have C1 := (hb2.block (w.heap.size + 1) (by simp; omega)).trans (Lw.blk_alloc ((hb1.block (w.heap.size + 1) hWs1).trans HB1.out) _)
  have C2 := (hb2.block w1.heap.size (by simp)).trans (Lw.blk_new w1 #[.int .i64 X', .int .i64 Y', .bool F'] 36)
  have m0 := Lw.blk_cell C0 0; have m1 := Lw.blk_cell C0 1; have m2 := Lw.blk_cell C0 2
  have n0 := Lw.blk_cell C1 0; have n1 := Lw.blk_cell C1 1; have n2 := Lw.blk_cell C1 2
  have o0 := Lw.blk_cell C2 0; have o1 := Lw.blk_cell C2 1; have o2 := Lw.blk_cell C2 2
  simp at m0 m1 m2 n0 n1 n2 o0 o1 o2
  have hz2 := hb2.size
  simp at hz2
  have hs0 : w.heap.size < w2.heap.size := by omega
  have hs1 : w.heap.size + 1 < w2.heap.size := by omega
  have hs2 : w1.heap.size < w2.heap.size := by omega
  have hB2 : Below w.heap.size w w2 := Lw.bt (Lw.balloc (Lw.bt hBW hb1) _) hb2
  clear C0 C1 C2 q0 q1 q2 q3 q4 q5
  refine wp_region_held_drew (S := Lw.Sm w2) (by kernel_rfl) (Lw.sm_drew w2) (fun hHeld => ?_)
  (refine Lw.take1 (i := 0) (v := ?_) rfl (by kernel_rfl) (by kernel_rfl) (by kernel_rfl) (fun _ _ _ h => h) (Or.inl ⟨by rfl, ?_⟩) (by assumption) ?_; rotate_left 1; (focus (intro wS hSw; obtain ⟨hS1, hS2, hS3, hS4⟩ := hSw; go_simp <;> with_reducible rfl)); (try simp only [Act.put, List.setIfInBounds_toArray, List.set_cons_zero, List.set_cons_succ]))
  (refine Lw.take1 (i := 1) (v := ?_) rfl (by kernel_rfl) (by kernel_rfl) (by kernel_rfl) (fun _ _ _ h => h) (Or.inl ⟨by rfl, ?_⟩) (by assumption) ?_; rotate_left 1; (focus (intro wS hSw; obtain ⟨hS1, hS2, hS3, hS4⟩ := hSw; go_simp <;> with_reducible rfl)); (try simp only [Act.put, List.setIfInBounds_toArray, List.set_cons_zero, List.set_cons_succ]))
  (refine Lw.take1 (i := 2) (v := ?_) rfl (by kernel_rfl) (by kernel_rfl) (by kernel_rfl) (fun _ _ _ h => h) (Or.inl ⟨by rfl, ?_⟩) (by assumption) ?_; rotate_left 1; (focus (intro wS hSw; obtain ⟨hS1, hS2, hS3, hS4⟩ := hSw; go_simp <;> with_reducible rfl)); (try simp only [Act.put, List.setIfInBounds_toArray, List.set_cons_zero, List.set_cons_succ]))
  (refine Lw.take1 (i := 3) (v := ?_) rfl (by kernel_rfl) (by kernel_rfl) (by kernel_rfl) (fun _ _ _ h => h) (Or.inl ⟨by rfl, ?_⟩) (by assumption) ?_; rotate_left 1; (focus (intro wS hSw; obtain ⟨hS1, hS2, hS3, hS4⟩ := hSw; go_simp <;> with_reducible rfl)); (try simp only [Act.put, List.setIfInBounds_toArray, List.set_cons_zero, List.set_cons_succ]))
  (refine Lw.take1 (i := 4) (v := ?_) rfl (by kernel_rfl) (by kernel_rfl) (by kernel_rfl) (fun _ _ _ h => h) (Or.inl ⟨by rfl, ?_⟩) (by assumption) ?_; rotate_left 1; (focus (intro wS hSw; obtain ⟨hS1, hS2, hS3, hS4⟩ := hSw; go_simp <;> with_reducible rfl)); (try simp only [Act.put, List.setIfInBounds_toArray, List.set_cons_zero, List.set_cons_succ]))
  (refine Lw.take1 (i := 5) (v := ?_) rfl (by kernel_rfl) (by kernel_rfl) (by kernel_rfl) (fun _ _ _ h => h) (Or.inl ⟨by rfl, ?_⟩) (by assumption) ?_; rotate_left 1; (focus (intro wS hSw; obtain ⟨hS1, hS2, hS3, hS4⟩ := hSw; go_simp <;> with_reducible rfl)); (try simp only [Act.put, List.setIfInBounds_toArray, List.set_cons_zero, List.set_cons_succ]))
  (refine wpAnyH_ready (rs := [6]) (by kernel_rfl) (by simp) ?_; refine Lw.cons1 (i := 6) rfl (fun K hK => ?_) AllReadyH.nil; go_simp; go_at_call 24; (with_reducible refine (M.out _).mono ?_); rintro e wx ⟨rfl, hbx⟩; refine hK.out _ _ ?_ (fun hHeld => ?_); (focus exact Lw.sm_keep (Lw.sm_drew w2) hbx); clear hK K; (try simp only [Act.put, List.setIfInBounds_toArray, List.set_cons_zero, List.set_cons_succ]))
  (refine Lw.take1 (i := 7) (v := ?_) rfl (by kernel_rfl) (by kernel_rfl) (by kernel_rfl) (fun _ _ _ h => h) (Or.inl ⟨by rfl, ?_⟩) (by assumption) ?_; rotate_left 1; (focus (intro wS hSw; obtain ⟨hS1, hS2, hS3, hS4⟩ := hSw; go_simp <;> with_reducible rfl)); (try simp only [Act.put, List.setIfInBounds_toArray, List.set_cons_zero, List.set_cons_succ]))
  (refine Lw.take1 (i := 8) (v := ?_) rfl (by kernel_rfl) (by kernel_rfl) (by kernel_rfl) (fun _ _ _ h => h) (Or.inl ⟨by rfl, ?_⟩) (by assumption) ?_; rotate_left 1; (focus (intro wS hSw; obtain ⟨hS1, hS2, hS3, hS4⟩ := hSw; go_simp <;> with_reducible rfl)); (try simp only [Act.put, List.setIfInBounds_toArray, List.set_cons_zero, List.set_cons_succ]))
  (refine Lw.take1 (i := 9) (v := ?_) rfl (by kernel_rfl) (by kernel_rfl) (by kernel_rfl) (fun _ _ _ h => h) (Or.inl ⟨by rfl, ?_⟩) (by assumption) ?_; rotate_left 1; (focus (intro wS hSw; obtain ⟨hS1, hS2, hS3, hS4⟩ := hSw; go_simp <;> with_reducible rfl)); (try simp only [Act.put, List.setIfInBounds_toArray, List.set_cons_zero, List.set_cons_succ]))
  refine wpAnyH_done (by kernel_rfl) ?_ _
  have hS := Lw.sm_keep (Lw.sm_drew w2) hbx
  go_wp2
  go_ret
  exact ⟨by simp, Lw.bt hB2 hS.2.2.2⟩
theorem CurveTurns (P A B X Y : Int) (F : Bool) (w : World) (wP : (Lit.int .i64 P).wf = true) (wA : (Lit.int .i64 A).wf = true) (wB : (Lit.int .i64 B).wf = true) (wX : (Lit.int .i64 X).wf = true) (wY : (Lit.int .i64 Y).wf = true) :
    Calls Try.prog 6 #[.agg #[.int .i64 P, .int .i64 A, .int .i64 B], .agg #[.int .i64 X, .int .i64 Y, .bool F]] w fun e w' => e = .returned (.bool true) ∧ Below w.heap.size w w' := by
  by_cases hc : Lw.crvE P A B = 0
  · rcases hs : Lw.spotB P A B X Y F with _ | _
    · exact CurveTurns_bad P A B X Y F w (by rw [Lw.one_form hc hs]; decide)
    · exact CurveTurns_ok P A B X Y F w hc hs
  · exact CurveTurns_bad P A B X Y F w (by rw [Lw.one_bad hc]; exact hc)
end Go.Proofs.Ytoignifimgioaaa.LW

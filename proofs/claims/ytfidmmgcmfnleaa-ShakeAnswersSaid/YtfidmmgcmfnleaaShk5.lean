/- The reference's Shake. -/
import Derived.Test.YtfidmmgcmfnleaaShk3
set_option linter.unusedVariables false
set_option linter.unusedSimpArgs false
namespace Go.Proofs.Ytfidmmgcmfnleaa
open Go.RowKit
set_option maxHeartbeats 4000000 in
theorem ref_Shake (P Q G H a k x : Int) (w : World) (h1 : 3 ≤ P) (h2 : P ≤ 1048576) (a1 : 0 ≤ a) (a2 : a ≤ 1048576) (k1 : 0 ≤ k) (k2 : k ≤ 1048576) (x1 : 0 ≤ x) (x2 : x < P) :
    Calls Try.prog 20 #[.agg #[.int .i64 P, .int .i64 Q, .int .i64 G, .int .i64 H], .int .i64 a, .int .i64 k, .int .i64 x] w fun e w' => e = .returned (.agg #[.int .i64 (Lw.pw G k P), .int .i64 (Lw.hsum (2 :: Lw.textL [x, Lw.pw G k P, Lw.pw G a P, Lw.pw x a P, Lw.pw x k P])), .int .i64 (Lw.hsum (1 :: Lw.textL [x, Lw.pw G k P, Lw.pw G a P, Lw.pw x a P, Lw.pw x k P]))]) ∧ Below w.heap.size w w' := by
  obtain ⟨q1, q2⟩ := Lw.pw_bd G a P (by omega)
  obtain ⟨r1, r2⟩ := Lw.pw_bd G k P (by omega)
  obtain ⟨u1, u2⟩ := Lw.pw_bd x a P (by omega)
  obtain ⟨v1, v2⟩ := Lw.pw_bd x k P (by omega)
  have X1 := Lib.hid (fun (w : World) => ref_Pow k.toNat G k P w (Nat.le_refl _) (by omega) (by omega) (by omega) (by omega))
  have X2 := Lib.hid (fun (w : World) => ref_Pow a.toNat G a P w (Nat.le_refl _) (by omega) (by omega) (by omega) (by omega))
  have X3 := Lib.hid (fun (w : World) => ref_Pow a.toNat x a P w (Nat.le_refl _) (by omega) (by omega) (by omega) (by omega))
  have X4 := Lib.hid (fun (w : World) => ref_Pow k.toNat x k P w (Nat.le_refl _) (by omega) (by omega) (by omega) (by omega))
  generalize Lw.pw G a P = s at *
  generalize Lw.pw G k P = f at *
  generalize Lw.pw x a P = u at *
  generalize Lw.pw x k P = v at *
  have TX := Lib.hid (fun (A : Option Addr) (c : Nat) (w : World) R => ref_ShakeText_five A c [x, f, s, u, v] w R (by intro z hz; simp at hz; omega))
  have hy := Lw.textL_byt [x, f, s, u, v]
  have C1 := Lib.hid (fun A c w R => ref_Sum A (1 + 20) c (1 :: Lw.textL [x, f, s, u, v]) w R (Lw.byt_cons (by decide) (by decide) hy) (by omega))
  have C2 := Lib.hid (fun A c w R => ref_Sum A (1 + 20) c (2 :: Lw.textL [x, f, s, u, v]) w R (Lw.byt_cons (by decide) (by decide) hy) (by omega))
  obtain ⟨t1, ht1⟩ : ∃ t, Lw.hsum (1 :: Lw.textL [x, f, s, u, v]) = t := ⟨_, rfl⟩
  obtain ⟨t2, ht2⟩ : ∃ t, Lw.hsum (2 :: Lw.textL [x, f, s, u, v]) = t := ⟨_, rfl⟩
  rw [ht1] at C1 ⊢
  rw [ht2] at C2 ⊢
  clear ht1 ht2
  obtain ⟨W0, hW0⟩ : ∃ W, (w.alloc (.cells #[.int .i64 P, .int .i64 Q, .int .i64 G, .int .i64 H] 23)).alloc (.cells #[.int .i64 0, .int .i64 0, .int .i64 0] 48) = W := ⟨_, rfl⟩
  have B0 := Lib.hid (show W0.heap[w.heap.size]? = some (.cells #[.int .i64 P, .int .i64 Q, .int .i64 G, .int .i64 H] 23 (0, 0)) from hW0 ▸ Lw.blk_alloc (Lw.blk_new _ _ _) _)
  have B1 := Lib.hid (show W0.heap[w.heap.size + 1]? = some (.cells #[.int .i64 0, .int .i64 0, .int .i64 0] 48 (0, 0)) from hW0 ▸ Lw.blk_new' (by simp) _ _)
  have hBW : Below w.heap.size w W0 := by rw [← hW0]; (repeat (first | exact Below.refl _ _ | refine Lw.bt ?_ (by assumption) | refine Lw.balloc ?_ _ | refine Lw.bdrewN ?_ _ | refine Below.drew ?_ | refine Lw.bset ?_ (by first | (simp; done) | (simp; omega) | omega) _))
  have z1 : W0.heap.size ≤ w.heap.size + 1 + 1 := by rw [← hW0]; simp
  have z2 : w.heap.size + 1 + 1 ≤ W0.heap.size := by rw [← hW0]; simp
  have HW0 := Lib.hid hW0
  clear hW0
  have g0 : w.heap.size < W0.heap.size := by omega
  have g1 : w.heap.size + 1 < W0.heap.size := by omega
  have m0 := Lw.blk_cell B0.out 0; have m1 := Lw.blk_cell B0.out 1; have m2 := Lw.blk_cell B0.out 2; have m3 := Lw.blk_cell B0.out 3
  simp at m0 m1 m2 m3
  go_enter Try.func20, Try.ntmps20
  go_wp2_with fail
  rw [HW0.out]
  refine (X1.out _).mono ?_
  rintro e w' ⟨rfl, rfl⟩
  go_wp2_with fail
  have hS0 := Lw.sm_drew W0
  refine wp_region_held_drew (S := Lw.Sm W0) (by kernel_rfl) hS0 (fun hHeld => ?_)
  (refine Lw.take1 (i := 0) (v := ?_) rfl (by kernel_rfl) (by kernel_rfl) (by kernel_rfl) (fun _ _ _ h => h) (Or.inl ⟨by rfl, ?_⟩) (by assumption) ?_; rotate_left 1; (focus (intro wS hSw; obtain ⟨hS1, hS2, hS3, hS4⟩ := hSw; go_simp <;> with_reducible rfl)); (try simp only [Act.put, List.setIfInBounds_toArray, List.set_cons_zero, List.set_cons_succ]))
  (refine Lw.take1 (i := 1) (v := ?_) rfl (by kernel_rfl) (by kernel_rfl) (by kernel_rfl) (fun _ _ _ h => h) (Or.inl ⟨by rfl, ?_⟩) (by assumption) ?_; rotate_left 1; (focus (intro wS hSw; obtain ⟨hS1, hS2, hS3, hS4⟩ := hSw; go_simp <;> with_reducible rfl)); (try simp only [Act.put, List.setIfInBounds_toArray, List.set_cons_zero, List.set_cons_succ]))
  (refine Lw.take1 (i := 2) (v := ?_) rfl (by kernel_rfl) (by kernel_rfl) (by kernel_rfl) (fun _ _ _ h => h) (Or.inl ⟨by rfl, ?_⟩) (by assumption) ?_; rotate_left 1; (focus (intro wS hSw; obtain ⟨hS1, hS2, hS3, hS4⟩ := hSw; go_simp <;> with_reducible rfl)); (try simp only [Act.put, List.setIfInBounds_toArray, List.set_cons_zero, List.set_cons_succ]))
  (refine Lw.take1 (i := 3) (v := ?_) rfl (by kernel_rfl) (by kernel_rfl) (by kernel_rfl) (fun _ _ _ h => h) (Or.inl ⟨by rfl, ?_⟩) (by assumption) ?_; rotate_left 1; (focus (intro wS hSw; obtain ⟨hS1, hS2, hS3, hS4⟩ := hSw; go_simp <;> with_reducible rfl)); (try simp only [Act.put, List.setIfInBounds_toArray, List.set_cons_zero, List.set_cons_succ]))
  (refine Lw.take1 (i := 4) (v := ?_) rfl (by kernel_rfl) (by kernel_rfl) (by kernel_rfl) (fun _ _ _ h => h) (Or.inl ⟨by rfl, ?_⟩) (by assumption) ?_; rotate_left 1; (focus (intro wS hSw; obtain ⟨hS1, hS2, hS3, hS4⟩ := hSw; go_simp <;> with_reducible rfl)); (try simp only [Act.put, List.setIfInBounds_toArray, List.set_cons_zero, List.set_cons_succ]))
  (refine Lw.take1 (i := 5) (v := ?_) rfl (by kernel_rfl) (by kernel_rfl) (by kernel_rfl) (fun _ _ _ h => h) (Or.inl ⟨by rfl, ?_⟩) (by assumption) ?_; rotate_left 1; (focus (intro wS hSw; obtain ⟨hS1, hS2, hS3, hS4⟩ := hSw; go_simp <;> with_reducible rfl)); (try simp only [Act.put, List.setIfInBounds_toArray, List.set_cons_zero, List.set_cons_succ]))
  (refine Lw.take1 (i := 6) (v := ?_) rfl (by kernel_rfl) (by kernel_rfl) (by kernel_rfl) (fun _ _ _ h => h) (Or.inl ⟨by rfl, ?_⟩) (by assumption) ?_; rotate_left 1; (focus (intro wS hSw; obtain ⟨hS1, hS2, hS3, hS4⟩ := hSw; go_simp <;> with_reducible rfl)); (try simp only [Act.put, List.setIfInBounds_toArray, List.set_cons_zero, List.set_cons_succ]))
  (refine Lw.take1 (i := 8) (v := ?_) rfl (by kernel_rfl) (by kernel_rfl) (by kernel_rfl) (fun _ _ _ h => h) (Or.inl ⟨by rfl, ?_⟩) (by assumption) ?_; rotate_left 1; (focus (intro wS hSw; obtain ⟨hS1, hS2, hS3, hS4⟩ := hSw; go_simp <;> with_reducible rfl)); (try simp only [Act.put, List.setIfInBounds_toArray, List.set_cons_zero, List.set_cons_succ]))
  (refine Lw.take1 (i := 9) (v := ?_) rfl (by kernel_rfl) (by kernel_rfl) (by kernel_rfl) (fun _ _ _ h => h) (Or.inl ⟨by rfl, ?_⟩) (by assumption) ?_; rotate_left 1; (focus (intro wS hSw; obtain ⟨hS1, hS2, hS3, hS4⟩ := hSw; go_simp <;> with_reducible rfl)); (try simp only [Act.put, List.setIfInBounds_toArray, List.set_cons_zero, List.set_cons_succ]))
  (refine Lw.take1 (i := 10) (v := ?_) rfl (by kernel_rfl) (by kernel_rfl) (by kernel_rfl) (fun _ _ _ h => h) (Or.inl ⟨by rfl, ?_⟩) (by assumption) ?_; rotate_left 1; (focus (intro wS hSw; obtain ⟨hS1, hS2, hS3, hS4⟩ := hSw; go_simp <;> with_reducible rfl)); (try simp only [Act.put, List.setIfInBounds_toArray, List.set_cons_zero, List.set_cons_succ]))
  (refine Lw.take1 (i := 11) (v := ?_) rfl (by kernel_rfl) (by kernel_rfl) (by kernel_rfl) (fun _ _ _ h => h) (Or.inl ⟨by rfl, ?_⟩) (by assumption) ?_; rotate_left 1; (focus (intro wS hSw; obtain ⟨hS1, hS2, hS3, hS4⟩ := hSw; go_simp <;> with_reducible rfl)); (try simp only [Act.put, List.setIfInBounds_toArray, List.set_cons_zero, List.set_cons_succ]))
  (refine Lw.take1 (i := 13) (v := ?_) rfl (by kernel_rfl) (by kernel_rfl) (by kernel_rfl) (fun _ _ _ h => h) (Or.inl ⟨by rfl, ?_⟩) (by assumption) ?_; rotate_left 1; (focus (intro wS hSw; obtain ⟨hS1, hS2, hS3, hS4⟩ := hSw; go_simp <;> with_reducible rfl)); (try simp only [Act.put, List.setIfInBounds_toArray, List.set_cons_zero, List.set_cons_succ]))
  (refine Lw.take1 (i := 14) (v := ?_) rfl (by kernel_rfl) (by kernel_rfl) (by kernel_rfl) (fun _ _ _ h => h) (Or.inl ⟨by rfl, ?_⟩) (by assumption) ?_; rotate_left 1; (focus (intro wS hSw; obtain ⟨hS1, hS2, hS3, hS4⟩ := hSw; go_simp <;> with_reducible rfl)); (try simp only [Act.put, List.setIfInBounds_toArray, List.set_cons_zero, List.set_cons_succ]))
  (refine Lw.take1 (i := 15) (v := ?_) rfl (by kernel_rfl) (by kernel_rfl) (by kernel_rfl) (fun _ _ _ h => h) (Or.inl ⟨by rfl, ?_⟩) (by assumption) ?_; rotate_left 1; (focus (intro wS hSw; obtain ⟨hS1, hS2, hS3, hS4⟩ := hSw; go_simp <;> with_reducible rfl)); (try simp only [Act.put, List.setIfInBounds_toArray, List.set_cons_zero, List.set_cons_succ]))
  (refine Lw.take1 (i := 16) (v := ?_) rfl (by kernel_rfl) (by kernel_rfl) (by kernel_rfl) (fun _ _ _ h => h) (Or.inl ⟨by rfl, ?_⟩) (by assumption) ?_; rotate_left 1; (focus (intro wS hSw; obtain ⟨hS1, hS2, hS3, hS4⟩ := hSw; go_simp <;> with_reducible rfl)); (try simp only [Act.put, List.setIfInBounds_toArray, List.set_cons_zero, List.set_cons_succ]))
  (refine wpAnyH_ready (rs := [7]) (by kernel_rfl) (by simp) ?_; refine Lw.cons1 (i := 7) rfl (fun K hK => ?_) AllReadyH.nil; go_simp; go_at_call 14; (with_reducible refine (X2.out _).mono ?_); rintro e wx ⟨rfl, rfl⟩; refine hK.out _ _ ?_ (fun hHeld => ?_); (focus exact hS0); clear hK K; (try simp only [Act.put, List.setIfInBounds_toArray, List.set_cons_zero, List.set_cons_succ]))
  (refine wpAnyH_ready (rs := [12]) (by kernel_rfl) (by simp) ?_; refine Lw.cons1 (i := 12) rfl (fun K hK => ?_) AllReadyH.nil; go_simp; go_at_call 14; (with_reducible refine (X3.out _).mono ?_); rintro e wx ⟨rfl, rfl⟩; refine hK.out _ _ ?_ (fun hHeld => ?_); (focus exact hS0); clear hK K; (try simp only [Act.put, List.setIfInBounds_toArray, List.set_cons_zero, List.set_cons_succ]))
  (refine wpAnyH_ready (rs := [17]) (by kernel_rfl) (by simp) ?_; refine Lw.cons1 (i := 17) rfl (fun K hK => ?_) AllReadyH.nil; go_simp; go_at_call 14; (with_reducible refine (X4.out _).mono ?_); rintro e wx ⟨rfl, rfl⟩; refine hK.out _ _ ?_ (fun hHeld => ?_); (focus exact hS0); clear hK K; (try simp only [Act.put, List.setIfInBounds_toArray, List.set_cons_zero, List.set_cons_succ]))
  (refine wpAnyH_ready (rs := [18]) (by kernel_rfl) (by simp) ?_; refine Lw.cons1 (i := 18) rfl (fun K hK => ?_) AllReadyH.nil; go_simp; refine hK.out _ _ ?_ (fun hHeld => ?_); (focus exact Lw.sm_of (Below.drew (Lw.balloc (Below.refl _ _) _))); clear hK K; (try simp only [Act.put, List.setIfInBounds_toArray, List.set_cons_zero, List.set_cons_succ]))
  (refine wpAnyH_ready (rs := [19]) (by kernel_rfl) (by simp) ?_; refine Lw.cons1 (i := 19) rfl (fun K hK => ?_) AllReadyH.nil; go_simp; go_at_call 22; (with_reducible refine (TX.out _ _ _ (by exact Lw.Rd.lit (Lw.blk_drew (Lw.blk_new _ _ _)) rfl rfl)).mono ?_); rintro e w6 ⟨A6, c6, rfl, own6, hb6⟩; refine hK.out _ _ ?_ (fun hHeld => ?_); (focus exact Lw.sm_of (Lw.bt (Below.drew (Lw.balloc (Below.refl _ _) _)) hb6)); clear hK K; (try simp only [Act.put, List.setIfInBounds_toArray, List.set_cons_zero, List.set_cons_succ]))
  (refine Lw.take1 (i := 20) (v := ?_) rfl (by kernel_rfl) (by kernel_rfl) (by kernel_rfl) (fun _ _ _ h => h) (Or.inl ⟨by rfl, ?_⟩) (by assumption) ?_; rotate_left 1; (focus (intro wS hSw; obtain ⟨hS1, hS2, hS3, hS4⟩ := hSw; go_simp <;> with_reducible rfl)); (try simp only [Act.put, List.setIfInBounds_toArray, List.set_cons_zero, List.set_cons_succ]))
  refine wpAnyH_done (by kernel_rfl) ?_ _
  have hB6 : Below W0.heap.size W0 w6 := Lw.bt (Below.drew (Lw.balloc (Below.refl _ _) _)) hb6
  clear hHeld hS0 hb6
  have R6 := Lib.hid (Lw.Rd.of_own own6)
  clear own6 m0 m1 m2 m3
  go_wp2_with (at_builtin; refine Lw.wpList_app elByte rfl (.tmp 38) (.tmp 39) rfl rfl (Lw.own_lit w6 (xs := [.int .u8 1]) rfl rfl (by decide) (Nat.le_refl _)) rfl (R6.out.alloc _) (Lw.intsV_one _ _) (by omega) (Lw.balloc (Below.refl _ _) _) (Nat.le_refl _) (by simp) ?_; intro v1 w7 own7 hb7 hg7 _)
  obtain ⟨A7, c7, rfl, _⟩ := Lw.ownsForm own7
  refine (C1.out _ _ _ (Lw.Rd.of_own own7)).mono ?_
  rintro e w8 ⟨rfl, hb8⟩
  have hb78 := Lw.bt hb7 hb8
  clear own7
  go_wp2_with (at_builtin; refine Lw.wpList_app elByte rfl (.tmp 42) (.tmp 43) rfl rfl (Lw.own_lit w8 (xs := [.int .u8 2]) rfl rfl (by decide) (Nat.le_refl _)) rfl ((R6.out.below (Nat.le_refl _) hb78).alloc _) (Lw.intsV_one _ _) (by omega) (Lw.balloc hb78 _) hb78.size (by simp) ?_; intro v3 w9 own9 hb9 _ _)
  obtain ⟨A9, c9, rfl, _⟩ := Lw.ownsForm own9
  refine (C2.out _ _ _ (Lw.Rd.of_own own9)).mono ?_
  rintro e w10 ⟨rfl, hb10⟩
  clear own9
  have hB10 := Lw.bt hB6 (Lw.bt hb9 hb10)
  have B110 := Lib.hid ((hB10.block _ g1).trans B1.out)
  have l0 := Lw.blk_cell B110.out 0; have l1 := Lw.blk_cell B110.out 1; have l2 := Lw.blk_cell B110.out 2; have fr := fun i => Lw.blk_free B110.out i
  simp at l0 l1 l2
  go_wp2_with fail
  refine bodyPost_ret (v := .agg #[.int .i64 f, .int .i64 t2, .int .i64 t1]) (by simp [results, Try.results20, go_sem, l0, l1, l2]) rfl ⟨rfl, ?_⟩
  exact Lw.bset (Lw.bset (Lw.bset (Lw.bt hBW hB10) (by simp) _) (by simp) _) (by simp) _
end Go.Proofs.Ytfidmmgcmfnleaa

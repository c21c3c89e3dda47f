/- The law ShakeEnds: shake.Finish's key is the reference's, or the code. -/
import Derived.Test.YtfidmmgcmfnleaaShk4
set_option linter.unusedVariables false
namespace Go.Proofs.Ytfidmmgcmfnleaa.LW
open Go.RowKit
set_option maxHeartbeats 2000000 in
theorem ShakeEnds_bad (P Q G H k x rE rT rK : Int) (w : World) (h : ¬ Lw.askE P Q G H [k] [x, rE] = 0) :
    Calls Try.prog 8 #[.agg #[.int .i64 P, .int .i64 Q, .int .i64 G, .int .i64 H], .int .i64 k, .int .i64 x, .agg #[.int .i64 rE, .int .i64 rT, .int .i64 rK]] w fun e w' => e = .returned (.bool true) ∧ Below w.heap.size w w' := by
  obtain ⟨E, hE⟩ : ∃ E, Lw.askE P Q G H [k] [x, rE] = E := ⟨_, rfl⟩
  have HE := Lib.hid hE
  have hn : (E != 0) = true := by rw [← hE]; simpa using h
  clear h hE
  go_enter Try.func8, Try.ntmps8
  go_wp2_with (first | (go_at_call 21; (with_reducible refine (shake_Finish_bad P Q G H k x rE rT rK E _ HE.out hn).mono ?_); rintro e w1 ⟨rfl, hb1⟩; obtain ⟨hc1, hf1⟩ := Lw.bcell hb1; have hz1 := hb1.size; (try simp at hz1); have hy1_00 : w.heap.size < w1.heap.size := (by omega); have hy1_01 : w.heap.size < w1.heap.size + 1 := (by omega); have hy1_02 : w.heap.size < w1.heap.size + 1 + 1 := (by omega); have hy1_10 : w.heap.size + 1 < w1.heap.size := (by omega); have hy1_11 : w.heap.size + 1 < w1.heap.size + 1 := (by omega); have hy1_12 : w.heap.size + 1 < w1.heap.size + 1 + 1 := (by omega)) | (go_at_call 16; refine (ref_GroupAsk' P Q G H _ [k] [x, rE] HE.out _ _ _ _ _ _ _ (by first | exact Lw.Rd.nil _ _ _ | exact Lw.Rd.lit (Lw.blk_new' (by simp) _ _) rfl rfl | exact Lw.Rd.lit (Lw.blk_alloc (Lw.blk_new' (by simp) _ _) _) rfl rfl) (by first | exact Lw.Rd.nil _ _ _ | exact Lw.Rd.lit (Lw.blk_new' (by simp) _ _) rfl rfl | exact Lw.Rd.lit (Lw.blk_alloc (Lw.blk_new' (by simp) _ _) _) rfl rfl) (Lw.max_of (by omega)) (Lw.max_of (by omega))).mono ?_; rintro e w2 ⟨rfl, hb2⟩; obtain ⟨hc2, hf2⟩ := Lw.bcell hb2; have hz2 := hb2.size; (try simp at hz2); have hy2_00 : w.heap.size < w2.heap.size := (by omega); have hy2_01 : w.heap.size < w2.heap.size + 1 := (by omega); have hy2_02 : w.heap.size < w2.heap.size + 1 + 1 := (by omega)))
  go_ret
  exact ⟨by simp, by (repeat (first | exact Below.refl _ _ | refine Lw.bt ?_ (by assumption) | refine Lw.balloc ?_ _ | refine Lw.bdrewN ?_ _ | refine Below.drew ?_ | refine Lw.bset ?_ (by first | (simp; done) | (simp; omega) | omega) _))⟩
set_option maxHeartbeats 4000000 in
theorem ShakeEnds_ok (P Q G H k x rE rT rK : Int) (w : World) (hE : Lw.askE P Q G H [k] [x, rE] = 0) :
    Calls Try.prog 8 #[.agg #[.int .i64 P, .int .i64 Q, .int .i64 G, .int .i64 H], .int .i64 k, .int .i64 x, .agg #[.int .i64 rE, .int .i64 rT, .int .i64 rK]] w fun e w' => e = .returned (.bool true) ∧ Below w.heap.size w w' := by
  have X := fun (w : World) => shake_Finish_ok P Q G H k x rE rT rK w hE
  obtain ⟨hg, hp, hm⟩ := Lw.askE_ok hE
  obtain ⟨kk1, kk2, _⟩ := Lw.psB_cons (ps := []) hp
  obtain ⟨h1, h2, h3, h4, _⟩ := Lw.grp_facts hg
  obtain ⟨mx, hm2⟩ := Lw.msB_cons (ms := [rE]) hm
  obtain ⟨mr, _⟩ := Lw.msB_cons (ms := []) hm2
  obtain ⟨x1, x2, _⟩ := Lw.memB_bd mx
  obtain ⟨r1, r2, _⟩ := Lw.memB_bd mr
  obtain ⟨k1, k2⟩ := Lw.pw_bd G k P (by omega)
  obtain ⟨u1, u2⟩ := Lw.pw_bd x k P (by omega)
  obtain ⟨v1, v2⟩ := Lw.pw_bd rE k P (by omega)
  have X1 := Lib.hid (fun (w : World) => ref_Pow k.toNat G k P w (Nat.le_refl _) (by omega) (by omega) (by omega) (by omega))
  have X2 := Lib.hid (fun (w : World) => ref_Pow k.toNat x k P w (Nat.le_refl _) (by omega) (by omega) (by omega) (by omega))
  have X3 := Lib.hid (fun (w : World) => ref_Pow k.toNat rE k P w (Nat.le_refl _) (by omega) (by omega) (by omega) (by omega))
  unfold finRes finT at X
  generalize Lw.pw G k P = f at *
  generalize Lw.pw x k P = u at *
  generalize Lw.pw rE k P = v at *
  have TX := Lib.hid (fun (A : Option Addr) (c : Nat) (w : World) R => ref_ShakeText_five A c [f, rE, x, u, v] w R (by intro z hz; simp at hz; omega))
  have hy := Lw.textL_byt [f, rE, x, u, v]
  have C1 := fun A c w R => ref_Sum A (1 + 20) c (1 :: Lw.textL [f, rE, x, u, v]) w R (Lw.byt_cons (by decide) (by decide) hy) (by omega)
  have C2 := fun A c w R => ref_Sum A (1 + 20) c (2 :: Lw.textL [f, rE, x, u, v]) w R (Lw.byt_cons (by decide) (by decide) hy) (by omega)
  obtain ⟨t1, ht1⟩ : ∃ t, Lw.hsum (1 :: Lw.textL [f, rE, x, u, v]) = t := ⟨_, rfl⟩
  obtain ⟨t2, ht2⟩ : ∃ t, Lw.hsum (2 :: Lw.textL [f, rE, x, u, v]) = t := ⟨_, rfl⟩
  rw [ht1, ht2] at X
  rw [ht1] at C1
  rw [ht2] at C2
  have C1 := Lib.hid C1
  have C2 := Lib.hid C2
  have HE := Lib.hid hE
  clear hE hg hp hm hm2 mx mr ht1 ht2 hy
  by_cases ht : t2 = rT
  all_goals
    first | rw [if_pos ht] at X | rw [if_neg ht] at X
    first | (have htb : (t2 != rT) = false := by simpa using ht) | (have htb : (t2 != rT) = true := by simpa using ht)
    have X := Lib.hid X
    clear ht
    go_enter Try.func8, Try.ntmps8
    go_wp2_with (first | (go_at_call 21; (with_reducible refine (X.out _).mono ?_); rintro e w1 ⟨rfl, hb1⟩; obtain ⟨hc1, hf1⟩ := Lw.bcell hb1; have hz1 := hb1.size; (try simp at hz1); have hy1_00 : w.heap.size < w1.heap.size := (by omega); have hy1_01 : w.heap.size < w1.heap.size + 1 := (by omega); have hy1_02 : w.heap.size < w1.heap.size + 1 + 1 := (by omega); have hy1_10 : w.heap.size + 1 < w1.heap.size := (by omega); have hy1_11 : w.heap.size + 1 < w1.heap.size + 1 := (by omega); have hy1_12 : w.heap.size + 1 < w1.heap.size + 1 + 1 := (by omega)) | (go_at_call 16; refine (ref_GroupAsk' P Q G H _ [k] [x, rE] HE.out _ _ _ _ _ _ _ (by first | exact Lw.Rd.nil _ _ _ | exact Lw.Rd.lit (Lw.blk_new' (by simp) _ _) rfl rfl | exact Lw.Rd.lit (Lw.blk_alloc (Lw.blk_new' (by simp) _ _) _) rfl rfl) (by first | exact Lw.Rd.nil _ _ _ | exact Lw.Rd.lit (Lw.blk_new' (by simp) _ _) rfl rfl | exact Lw.Rd.lit (Lw.blk_alloc (Lw.blk_new' (by simp) _ _) _) rfl rfl) (Lw.max_of (by omega)) (Lw.max_of (by omega))).mono ?_; rintro e w2 ⟨rfl, hb2⟩; obtain ⟨hc2, hf2⟩ := Lw.bcell hb2; have hz2 := hb2.size; (try simp at hz2); have hy2_00 : w.heap.size < w2.heap.size := (by omega); have hy2_01 : w.heap.size < w2.heap.size + 1 := (by omega); have hy2_02 : w.heap.size < w2.heap.size + 1 + 1 := (by omega)))
    have hB2 : Below w.heap.size w w2 := by (repeat (first | exact Below.refl _ _ | refine Lw.bt ?_ (by assumption) | refine Lw.balloc ?_ _ | refine Lw.bdrewN ?_ _ | refine Below.drew ?_ | refine Lw.bset ?_ (by first | (simp; done) | (simp; omega) | omega) _))
    have g0 : w.heap.size < w2.heap.size := by omega
    have g1 : w.heap.size + 1 < w2.heap.size := by omega
    have B0 := Lib.hid ((hb2.block w.heap.size (by simp; omega)).trans (Lw.blk_alloc (Lw.blk_alloc ((hb1.block w.heap.size (by simp; omega)).trans (Lw.blk_alloc (Lw.blk_new _ _ _) _)) _) _))
    have B1 := Lib.hid ((hb2.block (w.heap.size + 1) (by simp; omega)).trans (Lw.blk_alloc (Lw.blk_alloc ((hb1.block (w.heap.size + 1) (by simp)).trans (Lw.blk_new' (by simp) _ _)) _) _))
    have m0 := Lw.blk_cell B0.out 0; have m1 := Lw.blk_cell B0.out 1; have m2 := Lw.blk_cell B0.out 2; have m3 := Lw.blk_cell B0.out 3
    have l0 := Lw.blk_cell B1.out 0; have l1 := Lw.blk_cell B1.out 1; have l2 := Lw.blk_cell B1.out 2
    simp at m0 m1 m2 m3 l0 l1 l2
    clear hb1 hb2 hc1 hf1 hc2 hf2
    have hS2 := Lw.sm_drew w2
    refine wp_region_held_drew (S := Lw.Sm w2) (by kernel_rfl) hS2 (fun hHeld => ?_)
    (refine Lw.take1 (i := 0) (v := ?_) rfl (by kernel_rfl) (by kernel_rfl) (by kernel_rfl) (fun _ _ _ h => h) (Or.inl ⟨by rfl, ?_⟩) (by assumption) ?_; rotate_left 1; (focus (intro wS hSw; obtain ⟨hS1, hS2, hS3, hS4⟩ := hSw; go_simp <;> with_reducible rfl)); (try simp only [Act.put, List.setIfInBounds_toArray, List.set_cons_zero, List.set_cons_succ]))
    (refine Lw.take1 (i := 1) (v := ?_) rfl (by kernel_rfl) (by kernel_rfl) (by kernel_rfl) (fun _ _ _ h => h) (Or.inl ⟨by rfl, ?_⟩) (by assumption) ?_; rotate_left 1; (focus (intro wS hSw; obtain ⟨hS1, hS2, hS3, hS4⟩ := hSw; go_simp <;> with_reducible rfl)); (try simp only [Act.put, List.setIfInBounds_toArray, List.set_cons_zero, List.set_cons_succ]))
    (refine Lw.take1 (i := 2) (v := ?_) rfl (by kernel_rfl) (by kernel_rfl) (by kernel_rfl) (fun _ _ _ h => h) (Or.inl ⟨by rfl, ?_⟩) (by assumption) ?_; rotate_left 1; (focus (intro wS hSw; obtain ⟨hS1, hS2, hS3, hS4⟩ := hSw; go_simp <;> with_reducible rfl)); (try simp only [Act.put, List.setIfInBounds_toArray, List.set_cons_zero, List.set_cons_succ]))
    (refine Lw.take1 (i := 3) (v := ?_) rfl (by kernel_rfl) (by kernel_rfl) (by kernel_rfl) (fun _ _ _ h => h) (Or.inl ⟨by rfl, ?_⟩) (by assumption) ?_; rotate_left 1; (focus (intro wS hSw; obtain ⟨hS1, hS2, hS3, hS4⟩ := hSw; go_simp <;> with_reducible rfl)); (try simp only [Act.put, List.setIfInBounds_toArray, List.set_cons_zero, List.set_cons_succ]))
    (refine Lw.take1 (i := 4) (v := ?_) rfl (by kernel_rfl) (by kernel_rfl) (by kernel_rfl) (fun _ _ _ h => h) (Or.inl ⟨by rfl, ?_⟩) (by assumption) ?_; rotate_left 1; (focus (intro wS hSw; obtain ⟨hS1, hS2, hS3, hS4⟩ := hSw; go_simp <;> with_reducible rfl)); (try simp only [Act.put, List.setIfInBounds_toArray, List.set_cons_zero, List.set_cons_succ]))
    (refine Lw.take1 (i := 6) (v := ?_) rfl (by kernel_rfl) (by kernel_rfl) (by kernel_rfl) (fun _ _ _ h => h) (Or.inl ⟨by rfl, ?_⟩) (by assumption) ?_; rotate_left 1; (focus (intro wS hSw; obtain ⟨hS1, hS2, hS3, hS4⟩ := hSw; go_simp <;> with_reducible rfl)); (try simp only [Act.put, List.setIfInBounds_toArray, List.set_cons_zero, List.set_cons_succ]))
    (refine Lw.take1 (i := 7) (v := ?_) rfl (by kernel_rfl) (by kernel_rfl) (by kernel_rfl) (fun _ _ _ h => h) (Or.inl ⟨by rfl, ?_⟩) (by assumption) ?_; rotate_left 1; (focus (intro wS hSw; obtain ⟨hS1, hS2, hS3, hS4⟩ := hSw; go_simp <;> with_reducible rfl)); (try simp only [Act.put, List.setIfInBounds_toArray, List.set_cons_zero, List.set_cons_succ]))
    (refine Lw.take1 (i := 8) (v := ?_) rfl (by kernel_rfl) (by kernel_rfl) (by kernel_rfl) (fun _ _ _ h => h) (Or.inl ⟨by rfl, ?_⟩) (by assumption) ?_; rotate_left 1; (focus (intro wS hSw; obtain ⟨hS1, hS2, hS3, hS4⟩ := hSw; go_simp <;> with_reducible rfl)); (try simp only [Act.put, List.setIfInBounds_toArray, List.set_cons_zero, List.set_cons_succ]))
    (refine Lw.take1 (i := 9) (v := ?_) rfl (by kernel_rfl) (by kernel_rfl) (by kernel_rfl) (fun _ _ _ h => h) (Or.inl ⟨by rfl, ?_⟩) (by assumption) ?_; rotate_left 1; (focus (intro wS hSw; obtain ⟨hS1, hS2, hS3, hS4⟩ := hSw; go_simp <;> with_reducible rfl)); (try simp only [Act.put, List.setIfInBounds_toArray, List.set_cons_zero, List.set_cons_succ]))
    (refine Lw.take1 (i := 10) (v := ?_) rfl (by kernel_rfl) (by kernel_rfl) (by kernel_rfl) (fun _ _ _ h => h) (Or.inl ⟨by rfl, ?_⟩) (by assumption) ?_; rotate_left 1; (focus (intro wS hSw; obtain ⟨hS1, hS2, hS3, hS4⟩ := hSw; go_simp <;> with_reducible rfl)); (try simp only [Act.put, List.setIfInBounds_toArray, List.set_cons_zero, List.set_cons_succ]))
    (refine Lw.take1 (i := 11) (v := ?_) rfl (by kernel_rfl) (by kernel_rfl) (by kernel_rfl) (fun _ _ _ h => h) (Or.inl ⟨by rfl, ?_⟩) (by assumption) ?_; rotate_left 1; (focus (intro wS hSw; obtain ⟨hS1, hS2, hS3, hS4⟩ := hSw; go_simp <;> with_reducible rfl)); (try simp only [Act.put, List.setIfInBounds_toArray, List.set_cons_zero, List.set_cons_succ]))
    (refine Lw.take1 (i := 12) (v := ?_) rfl (by kernel_rfl) (by kernel_rfl) (by kernel_rfl) (fun _ _ _ h => h) (Or.inl ⟨by rfl, ?_⟩) (by assumption) ?_; rotate_left 1; (focus (intro wS hSw; obtain ⟨hS1, hS2, hS3, hS4⟩ := hSw; go_simp <;> with_reducible rfl)); (try simp only [Act.put, List.setIfInBounds_toArray, List.set_cons_zero, List.set_cons_succ]))
    (refine Lw.take1 (i := 14) (v := ?_) rfl (by kernel_rfl) (by kernel_rfl) (by kernel_rfl) (fun _ _ _ h => h) (Or.inl ⟨by rfl, ?_⟩) (by assumption) ?_; rotate_left 1; (focus (intro wS hSw; obtain ⟨hS1, hS2, hS3, hS4⟩ := hSw; go_simp <;> with_reducible rfl)); (try simp only [Act.put, List.setIfInBounds_toArray, List.set_cons_zero, List.set_cons_succ]))
    (refine Lw.take1 (i := 15) (v := ?_) rfl (by kernel_rfl) (by kernel_rfl) (by kernel_rfl) (fun _ _ _ h => h) (Or.inl ⟨by rfl, ?_⟩) (by assumption) ?_; rotate_left 1; (focus (intro wS hSw; obtain ⟨hS1, hS2, hS3, hS4⟩ := hSw; go_simp <;> with_reducible rfl)); (try simp only [Act.put, List.setIfInBounds_toArray, List.set_cons_zero, List.set_cons_succ]))
    (refine Lw.take1 (i := 16) (v := ?_) rfl (by kernel_rfl) (by kernel_rfl) (by kernel_rfl) (fun _ _ _ h => h) (Or.inl ⟨by rfl, ?_⟩) (by assumption) ?_; rotate_left 1; (focus (intro wS hSw; obtain ⟨hS1, hS2, hS3, hS4⟩ := hSw; go_simp <;> with_reducible rfl)); (try simp only [Act.put, List.setIfInBounds_toArray, List.set_cons_zero, List.set_cons_succ]))
    (refine Lw.take1 (i := 17) (v := ?_) rfl (by kernel_rfl) (by kernel_rfl) (by kernel_rfl) (fun _ _ _ h => h) (Or.inl ⟨by rfl, ?_⟩) (by assumption) ?_; rotate_left 1; (focus (intro wS hSw; obtain ⟨hS1, hS2, hS3, hS4⟩ := hSw; go_simp <;> with_reducible rfl)); (try simp only [Act.put, List.setIfInBounds_toArray, List.set_cons_zero, List.set_cons_succ]))
    (refine Lw.take1 (i := 18) (v := ?_) rfl (by kernel_rfl) (by kernel_rfl) (by kernel_rfl) (fun _ _ _ h => h) (Or.inl ⟨by rfl, ?_⟩) (by assumption) ?_; rotate_left 1; (focus (intro wS hSw; obtain ⟨hS1, hS2, hS3, hS4⟩ := hSw; go_simp <;> with_reducible rfl)); (try simp only [Act.put, List.setIfInBounds_toArray, List.set_cons_zero, List.set_cons_succ]))
    (refine wpAnyH_ready (rs := [5]) (by kernel_rfl) (by simp) ?_; refine Lw.cons1 (i := 5) rfl (fun K hK => ?_) AllReadyH.nil; go_simp; go_at_call 14; (with_reducible refine (X1.out _).mono ?_); rintro e wx ⟨rfl, rfl⟩; refine hK.out _ _ ?_ (fun hHeld => ?_); (focus exact hS2); clear hK K; (try simp only [Act.put, List.setIfInBounds_toArray, List.set_cons_zero, List.set_cons_succ]))
    (refine wpAnyH_ready (rs := [13]) (by kernel_rfl) (by simp) ?_; refine Lw.cons1 (i := 13) rfl (fun K hK => ?_) AllReadyH.nil; go_simp; go_at_call 14; (with_reducible refine (X2.out _).mono ?_); rintro e wx ⟨rfl, rfl⟩; refine hK.out _ _ ?_ (fun hHeld => ?_); (focus exact hS2); clear hK K; (try simp only [Act.put, List.setIfInBounds_toArray, List.set_cons_zero, List.set_cons_succ]))
    (refine wpAnyH_ready (rs := [19]) (by kernel_rfl) (by simp) ?_; refine Lw.cons1 (i := 19) rfl (fun K hK => ?_) AllReadyH.nil; go_simp; go_at_call 14; (with_reducible refine (X3.out _).mono ?_); rintro e wx ⟨rfl, rfl⟩; refine hK.out _ _ ?_ (fun hHeld => ?_); (focus exact hS2); clear hK K; (try simp only [Act.put, List.setIfInBounds_toArray, List.set_cons_zero, List.set_cons_succ]))
    (refine wpAnyH_ready (rs := [20]) (by kernel_rfl) (by simp) ?_; refine Lw.cons1 (i := 20) rfl (fun K hK => ?_) AllReadyH.nil; go_simp; refine hK.out _ _ ?_ (fun hHeld => ?_); (focus exact Lw.sm_of (Below.drew (Lw.balloc (Below.refl _ _) _))); clear hK K; (try simp only [Act.put, List.setIfInBounds_toArray, List.set_cons_zero, List.set_cons_succ]))
    (refine wpAnyH_ready (rs := [21]) (by kernel_rfl) (by simp) ?_; refine Lw.cons1 (i := 21) rfl (fun K hK => ?_) AllReadyH.nil; go_simp; go_at_call 22; (with_reducible refine (TX.out _ _ _ (by exact Lw.Rd.lit (Lw.blk_drew (Lw.blk_new _ _ _)) rfl rfl)).mono ?_); rintro e w6 ⟨A6, c6, rfl, own6, hb6⟩; refine hK.out _ _ ?_ (fun hHeld => ?_); (focus exact Lw.sm_of (Lw.bt (Below.drew (Lw.balloc (Below.refl _ _) _)) hb6)); clear hK K; (try simp only [Act.put, List.setIfInBounds_toArray, List.set_cons_zero, List.set_cons_succ]))
    (refine Lw.take1 (i := 22) (v := ?_) rfl (by kernel_rfl) (by kernel_rfl) (by kernel_rfl) (fun _ _ _ h => h) (Or.inl ⟨by rfl, ?_⟩) (by assumption) ?_; rotate_left 1; (focus (intro wS hSw; obtain ⟨hS1, hS2, hS3, hS4⟩ := hSw; go_simp <;> with_reducible rfl)); (try simp only [Act.put, List.setIfInBounds_toArray, List.set_cons_zero, List.set_cons_succ]))
    refine wpAnyH_done (by kernel_rfl) ?_ _
    have hS6 : Lw.Sm w2 w6 := Lw.sm_of (Lw.bt (Below.drew (Lw.balloc (Below.refl _ _) _)) hb6)
    clear hHeld hS2 hb6
    have R6 := Lib.hid (Lw.Rd.of_own own6)
    clear own6
    go_wp2
    refine wp_region_held_drew (S := Lw.Sm w2) (by kernel_rfl) (Lw.sm_drew' hS6) (fun hHeld => ?_)
    (refine Lw.take1 (i := 1) (v := ?_) rfl (by kernel_rfl) (by kernel_rfl) (by kernel_rfl) (fun _ _ _ h => h) (Or.inl ⟨by rfl, ?_⟩) (by assumption) ?_; rotate_left 1; (focus (intro wS hSw; obtain ⟨hS1, hS2, hS3, hS4⟩ := hSw; go_simp <;> with_reducible rfl)); (try simp only [Act.put, List.setIfInBounds_toArray, List.set_cons_zero, List.set_cons_succ]))
    (refine Lw.take1 (i := 4) (v := ?_) rfl (by kernel_rfl) (by kernel_rfl) (by kernel_rfl) (fun _ _ _ h => h) (Or.inl ⟨by rfl, ?_⟩) (by assumption) ?_; rotate_left 1; (focus (intro wS hSw; obtain ⟨hS1, hS2, hS3, hS4⟩ := hSw; go_simp <;> with_reducible rfl)); (try simp only [Act.put, List.setIfInBounds_toArray, List.set_cons_zero, List.set_cons_succ]))
    (refine Lw.take1 (i := 5) (v := ?_) rfl (by kernel_rfl) (by kernel_rfl) (by kernel_rfl) (fun _ _ _ h => h) (Or.inl ⟨by rfl, ?_⟩) (by assumption) ?_; rotate_left 1; (focus (intro wS hSw; obtain ⟨hS1, hS2, hS3, hS4⟩ := hSw; go_simp <;> with_reducible rfl)); (try simp only [Act.put, List.setIfInBounds_toArray, List.set_cons_zero, List.set_cons_succ]))
    have hB6 := Lw.sm_bel hS6
    have hB6a : Below w2.heap.size w2 (w6.alloc (.cells #[.int .u8 2] 5)).drew := Below.drew (Lw.balloc hB6 _)
    (refine wpAnyH_ready (rs := [0]) (by kernel_rfl) (by simp) ?_; refine Lw.cons1 (i := 0) rfl (fun K hK => ?_) AllReadyH.nil; go_simp; refine hK.out _ _ ?_ (fun hHeld => ?_); (focus exact Lw.sm_of hB6a); clear hK K; (try simp only [Act.put, List.setIfInBounds_toArray, List.set_cons_zero, List.set_cons_succ]))
    (refine wpAnyH_ready (rs := [2]) (by kernel_rfl) (by simp) ?_; refine Lw.cons1 (i := 2) rfl (fun K hK => ?_) AllReadyH.nil; refine Lw.step_app elByte rfl _ _ rfl rfl (Lw.own_drew (Lw.own_lit w6 (xs := [.int .u8 2]) rfl rfl (by decide) (Nat.le_refl _))) rfl (Lw.Rd.drew (R6.out.alloc _)) (Lw.intsV_one _ _) (by omega) hB6a hB6.size (by simp) ?_; intro v7 w7 own7 hb7 hg7 _; refine hK.out _ _ ?_ (fun hHeld => ?_); (focus exact Lw.sm_of hb7); clear hK K; (try simp only [Act.put, List.setIfInBounds_toArray, List.set_cons_zero, List.set_cons_succ]))
    obtain ⟨A7, c7, rfl, _⟩ := Lw.ownsForm own7
    have hb67 : Below w6.heap.size w6 w7 := Lw.grown_own (Below.drew (Lw.balloc (Below.refl _ _) _)) (Lw.own_drew (Lw.own_lit w6 (base := w6.heap.size) (e := 5) (size := 1) (n := 1) (cs := #[.int .u8 2]) (xs := [.int .u8 2]) rfl rfl (by decide) (Nat.le_refl _))) (Nat.le_refl _) hg7
    (refine wpAnyH_ready (rs := [3]) (by kernel_rfl) (by simp) ?_; refine Lw.cons1 (i := 3) rfl (fun K hK => ?_) AllReadyH.nil; go_simp; go_at_call 23; (with_reducible refine (C2.out _ _ _ (Lw.Rd.of_own own7)).mono ?_); rintro e w8 ⟨rfl, hb8⟩; refine hK.out _ _ ?_ (fun hHeld => ?_); (focus exact Lw.sm_of (Lw.bt hb7 hb8)); clear hK K; (try simp only [Act.put, List.setIfInBounds_toArray, List.set_cons_zero, List.set_cons_succ]))
    (refine Lw.take1 (i := 6) (v := ?_) rfl (by kernel_rfl) (by kernel_rfl) (by kernel_rfl) (fun _ _ _ h => h) (Or.inl ⟨by rfl, ?_⟩) (by assumption) ?_; rotate_left 1; (focus (intro wS hSw; obtain ⟨hS1, hS2, hS3, hS4⟩ := hSw; go_simp <;> with_reducible rfl)); (try simp only [Act.put, List.setIfInBounds_toArray, List.set_cons_zero, List.set_cons_succ]))
    refine wpAnyH_done (by kernel_rfl) ?_ _
    have hB8 := Lw.bt hB2 (Lw.bt hb7 hb8)
    have hb68 := Lw.bt hb67 hb8
    clear hHeld own7 hg7 hb67 hb7 hb8 hB6a
    have R8 := Lib.hid (R6.out.below (Nat.le_refl _) hb68)
  · go_wp2_with (first | (at_builtin; refine Lw.wpList_app_g elByte rfl _ _ rfl rfl (Lw.own_lit w8 (xs := [.int .u8 1]) rfl rfl (by decide) (Nat.le_refl _)) rfl (R8.out.alloc _) (Lw.intsV_one _ _) (by omega) (Lw.balloc (Below.refl _ _) _) (Nat.le_refl _) (by simp) ?_; intro v9 w9 own9 hb9 _ _; obtain ⟨A9, c9, rfl, _⟩ := Lw.ownsForm own9) | (go_at_call 23; (with_reducible refine (C1.out _ _ _ (Lw.Rd.of_own own9)).mono ?_); rintro e w10 ⟨rfl, hb10⟩))
    go_ret
    exact ⟨by simp, Lw.bt hB8 (Lw.bt hb9 hb10)⟩
  · go_wp2
    go_ret
    exact ⟨by simp, hB8⟩
theorem ShakeEnds (P Q G H k x rE rT rK : Int) (w : World) (wP : (Lit.int .i64 P).wf = true) (wQ : (Lit.int .i64 Q).wf = true) (wG : (Lit.int .i64 G).wf = true) (wH : (Lit.int .i64 H).wf = true) (wk : (Lit.int .i64 k).wf = true) (wx : (Lit.int .i64 x).wf = true) (w1 : (Lit.int .i64 rE).wf = true) (w2 : (Lit.int .i64 rT).wf = true) (w3 : (Lit.int .i64 rK).wf = true) :
    Calls Try.prog 8 #[.agg #[.int .i64 P, .int .i64 Q, .int .i64 G, .int .i64 H], .int .i64 k, .int .i64 x, .agg #[.int .i64 rE, .int .i64 rT, .int .i64 rK]] w fun e w' => e = .returned (.bool true) ∧ Below w.heap.size w w' := by
  by_cases h : Lw.askE P Q G H [k] [x, rE] = 0
  · exact ShakeEnds_ok P Q G H k x rE rT rK w h
  · exact ShakeEnds_bad P Q G H k x rE rT rK w h
end Go.Proofs.Ytfidmmgcmfnleaa.LW

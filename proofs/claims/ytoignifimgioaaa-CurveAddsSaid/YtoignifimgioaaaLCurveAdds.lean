/- The law CurveAdds: the sum of two spots is the reference's, or the code. -/
import Derived.Test.YtoignifimgioaaaCrl
import Derived.Test.YtoignifimgioaaaCrs
import Derived.Test.YtoignifimgioaaaHelp
set_option linter.unusedVariables false
namespace Go.Proofs.Ytoignifimgioaaa.LW
open Go.RowKit
set_option maxHeartbeats 2000000 in
theorem CurveAdds_bad (P A B X Y X' Y' : Int) (F F' : Bool) (w : World) (h : ¬ Lw.sptE P A B [⟨X, Y, F⟩, ⟨X', Y', F'⟩] = 0) :
    Calls Try.prog 10 #[.agg #[.int .i64 P, .int .i64 A, .int .i64 B], .agg #[.int .i64 X, .int .i64 Y, .bool F], .agg #[.int .i64 X', .int .i64 Y', .bool F']] w fun e w' => e = .returned (.bool true) ∧ Below w.heap.size w w' := by
  have N : ∃ X2 Y2 : Int, ∃ F2 : Bool, X2 = 0 ∧ Y2 = 0 ∧ F2 = false ∧ ∀ w : World, Calls Try.prog 35 #[.agg #[.int .i64 P, .int .i64 A, .int .i64 B], .agg #[.int .i64 X, .int .i64 Y, .bool F], .agg #[.int .i64 X', .int .i64 Y', .bool F']] w fun e w' => e = .returned (.tuple #[.agg #[.int .i64 X2, .int .i64 Y2, .bool F2], .int .i64 (Lw.sptE P A B [⟨X, Y, F⟩, ⟨X', Y', F'⟩])]) ∧ Below w.heap.size w w' := ⟨0, 0, false, rfl, rfl, rfl, fun w => curve_Add_bad P A B X Y X' Y' F F' w h⟩
  have S1 := fun w => law_spot P A B X Y F w
  have S2 := fun w => law_spot P A B X' Y' F' w
  have FI := fun w => law_first (Lw.oneE P A B ⟨X, Y, F⟩) (Lw.oneE P A B ⟨X', Y', F'⟩) w
  have e : Lw.firstI (Lw.oneE P A B ⟨X, Y, F⟩) (Lw.oneE P A B ⟨X', Y', F'⟩) = Lw.sptE P A B [⟨X, Y, F⟩, ⟨X', Y', F'⟩] := by rw [Lw.two_first]; rfl
  rw [e] at FI
  have h1 : (Lw.sptE P A B [⟨X, Y, F⟩, ⟨X', Y', F'⟩] == 0) = false := by simpa using h
  obtain ⟨E, hE⟩ : ∃ E, Lw.sptE P A B [⟨X, Y, F⟩, ⟨X', Y', F'⟩] = E := ⟨_, rfl⟩
  rw [hE] at N FI h1
  clear hE h e
  obtain ⟨X2, Y2, F2, hX2, hY2, hF2, N⟩ := N
  replace N := Lib.hid N
  replace S1 := Lib.hid S1
  replace S2 := Lib.hid S2
  replace FI := Lib.hid FI
  have t1 : (X2 == 0) = true := by simpa using hX2
  have t2 : (Y2 == 0) = true := by simpa using hY2
  have t3 : (F2 == false) = true := by simpa using hF2
  have HF := Lib.hid hF2
  clear hX2 hY2 hF2
  obtain ⟨W, hW⟩ : ∃ W, ((w.alloc (.cells #[.int .i64 P, .int .i64 A, .int .i64 B] 32)).alloc (.cells #[.int .i64 X, .int .i64 Y, .bool F] 36)).alloc (.cells #[.int .i64 X', .int .i64 Y', .bool F'] 36) = W := ⟨_, rfl⟩
  have B0 := Lib.hid (show W.heap[w.heap.size]? = some (.cells #[.int .i64 P, .int .i64 A, .int .i64 B] 32 (0, 0)) from hW ▸ Lw.blk_alloc (Lw.blk_alloc (Lw.blk_new _ _ _) _) _)
  have B1 := Lib.hid (show W.heap[w.heap.size + 1]? = some (.cells #[.int .i64 X, .int .i64 Y, .bool F] 36 (0, 0)) from hW ▸ Lw.blk_alloc (Lw.blk_new' (by simp) _ _) _)
  have B2 := Lib.hid (show W.heap[w.heap.size + 1 + 1]? = some (.cells #[.int .i64 X', .int .i64 Y', .bool F'] 36 (0, 0)) from hW ▸ Lw.blk_new' (by simp) _ _)
  have hBW : Below w.heap.size w W := by rw [← hW]; exact Lw.balloc (Lw.balloc (Lw.balloc (Below.refl _ _) _) _) _
  have hWs2 : w.heap.size + 1 + 1 < W.heap.size := by rw [← hW]; simp
  have hWs : w.heap.size < W.heap.size := by omega
  have hWs1 : w.heap.size + 1 < W.heap.size := by omega
  have HW := Lib.hid hW
  clear hW
  go_enter Try.func10, Try.ntmps10
  go_wp2_with fail
  rw [HW.out]
  refine (N.out _).mono ?_
  rintro e w1 ⟨rfl, hb1⟩
  have hz1 := hb1.size
  go_wp2_with fail
  obtain ⟨V, hV⟩ : ∃ V, w1.alloc (.cells #[.int .i64 X2, .int .i64 Y2, .bool F2] 36) = V := ⟨_, rfl⟩
  have C0 := hV ▸ Lw.blk_alloc ((hb1.block w.heap.size hWs).trans B0.out) _
  have C1 := hV ▸ Lw.blk_alloc ((hb1.block (w.heap.size + 1) hWs1).trans B1.out) _
  have C2 := hV ▸ Lw.blk_alloc ((hb1.block (w.heap.size + 1 + 1) hWs2).trans B2.out) _
  have C3 := hV ▸ Lw.blk_new w1 #[.int .i64 X2, .int .i64 Y2, .bool F2] 36
  have l0 := Lw.blk_cell C0 0; have l1 := Lw.blk_cell C0 1; have l2 := Lw.blk_cell C0 2
  have k0 := Lw.blk_cell C1 0; have k1 := Lw.blk_cell C1 1; have k2 := Lw.blk_cell C1 2
  have m0 := Lw.blk_cell C2 0; have m1 := Lw.blk_cell C2 1; have m2 := Lw.blk_cell C2 2
  have n0 := Lw.blk_cell C3 0; have n1 := Lw.blk_cell C3 1; have n2 := Lw.blk_cell C3 2
  simp at l0 l1 l2 k0 k1 k2 m0 m1 m2 n0 n1 n2
  have hVs : w1.heap.size < V.heap.size := by rw [← hV]; simp
  have hVs0 : w.heap.size < V.heap.size := by omega
  have hVs1 : w.heap.size + 1 < V.heap.size := by omega
  have hVs2 : w.heap.size + 1 + 1 < V.heap.size := by omega
  have hBV : Below w.heap.size w V := by rw [← hV]; exact Lw.balloc (Lw.bt hBW hb1) _
  rw [hV]
  clear hV C0 C1 C2 C3 B0 B1 B2 HW
  refine wp_region_held_drew (S := Lw.Sm V) (by kernel_rfl) (Lw.sm_drew V) (fun hHeld => ?_)
  (refine Lw.take1 (i := 0) (v := ?_) rfl (by kernel_rfl) (by kernel_rfl) (by kernel_rfl) (fun _ _ _ h => h) (Or.inl ⟨by rfl, ?_⟩) (by assumption) ?_; rotate_left 1; (focus (intro wS hSw; obtain ⟨hS1, hS2, hS3, hS4⟩ := hSw; go_simp <;> with_reducible rfl)); (try simp only [Act.put, List.setIfInBounds_toArray, List.set_cons_zero, List.set_cons_succ]))
  (refine Lw.take1 (i := 1) (v := ?_) rfl (by kernel_rfl) (by kernel_rfl) (by kernel_rfl) (fun _ _ _ h => h) (Or.inl ⟨by rfl, ?_⟩) (by assumption) ?_; rotate_left 1; (focus (intro wS hSw; obtain ⟨hS1, hS2, hS3, hS4⟩ := hSw; go_simp <;> with_reducible rfl)); (try simp only [Act.put, List.setIfInBounds_toArray, List.set_cons_zero, List.set_cons_succ]))
  (refine Lw.take1 (i := 3) (v := ?_) rfl (by kernel_rfl) (by kernel_rfl) (by kernel_rfl) (fun _ _ _ h => h) (Or.inl ⟨by rfl, ?_⟩) (by assumption) ?_; rotate_left 1; (focus (intro wS hSw; obtain ⟨hS1, hS2, hS3, hS4⟩ := hSw; go_simp <;> with_reducible rfl)); (try simp only [Act.put, List.setIfInBounds_toArray, List.set_cons_zero, List.set_cons_succ]))
  (refine Lw.take1 (i := 4) (v := ?_) rfl (by kernel_rfl) (by kernel_rfl) (by kernel_rfl) (fun _ _ _ h => h) (Or.inl ⟨by rfl, ?_⟩) (by assumption) ?_; rotate_left 1; (focus (intro wS hSw; obtain ⟨hS1, hS2, hS3, hS4⟩ := hSw; go_simp <;> with_reducible rfl)); (try simp only [Act.put, List.setIfInBounds_toArray, List.set_cons_zero, List.set_cons_succ]))
  (refine wpAnyH_ready (rs := [2]) (by kernel_rfl) (by simp) ?_; refine Lw.cons1 (i := 2) rfl (fun K hK => ?_) AllReadyH.nil; go_simp; go_at_call 23; (with_reducible refine (S1.out _).mono ?_); rintro e wx ⟨rfl, hbx⟩; refine hK.out _ _ ?_ (fun hHeld => ?_); (focus exact Lw.sm_keep (Lw.sm_drew V) hbx); clear hK K; (try simp only [Act.put, List.setIfInBounds_toArray, List.set_cons_zero, List.set_cons_succ]))
  (refine wpAnyH_ready (rs := [5]) (by kernel_rfl) (by simp) ?_; refine Lw.cons1 (i := 5) rfl (fun K hK => ?_) AllReadyH.nil; go_simp; go_at_call 23; (with_reducible refine (S2.out _).mono ?_); rintro e wy ⟨rfl, hby⟩; refine hK.out _ _ ?_ (fun hHeld => ?_); (focus exact Lw.sm_keep (Lw.sm_keep (Lw.sm_drew V) hbx) hby); clear hK K; (try simp only [Act.put, List.setIfInBounds_toArray, List.set_cons_zero, List.set_cons_succ]))
  (refine wpAnyH_ready (rs := [6]) (by kernel_rfl) (by simp) ?_; refine Lw.cons1 (i := 6) rfl (fun K hK => ?_) AllReadyH.nil; go_simp; go_at_call 14; (with_reducible refine (FI.out _).mono ?_); rintro e wz ⟨rfl, rfl⟩; refine hK.out _ _ ?_ (fun hHeld => ?_); (focus exact Lw.sm_keep (Lw.sm_keep (Lw.sm_drew V) hbx) hby); clear hK K; (try simp only [Act.put, List.setIfInBounds_toArray, List.set_cons_zero, List.set_cons_succ]))
  (refine Lw.take1 (i := 7) (v := ?_) rfl (by kernel_rfl) (by kernel_rfl) (by kernel_rfl) (fun _ _ _ h => h) (Or.inl ⟨by rfl, ?_⟩) (by assumption) ?_; rotate_left 1; (focus (intro wS hSw; obtain ⟨hS1, hS2, hS3, hS4⟩ := hSw; go_simp <;> with_reducible rfl)); (try simp only [Act.put, List.setIfInBounds_toArray, List.set_cons_zero, List.set_cons_succ]))
  refine wpAnyH_done (by kernel_rfl) ?_ _
  have hS := Lw.sm_keep (Lw.sm_keep (Lw.sm_drew V) hbx) hby
  have q0 := (hS.1 ⟨w1.heap.size, 0, none⟩ hVs).trans n0; have q1 := (hS.1 ⟨w1.heap.size, 1, none⟩ hVs).trans n1; have q2 := (hS.1 ⟨w1.heap.size, 2, none⟩ hVs).trans n2
  go_wp2_with fail

  go_ret
  exact ⟨by simp [HF.out], Lw.bt hBV hS.2.2.2⟩
set_option maxHeartbeats 2000000 in
theorem CurveAdds_ok (P A B X Y X' Y' : Int) (F F' : Bool) (w : World) (hc : Lw.crvE P A B = 0) (hs : Lw.spotB P A B X Y F = true) (ht : Lw.spotB P A B X' Y' F' = true) :
    Calls Try.prog 10 #[.agg #[.int .i64 P, .int .i64 A, .int .i64 B], .agg #[.int .i64 X, .int .i64 Y, .bool F], .agg #[.int .i64 X', .int .i64 Y', .bool F']] w fun e w' => e = .returned (.bool true) ∧ Below w.heap.size w w' := by
  have N := fun w => curve_Add_ok P A B X Y X' Y' F F' w hc hs ht
  have RA := fun w => ref_SpotAdd P A B X Y X' Y' F F' w (Lw.of_crv hc).1 (Lw.of_crv hc).2.1 hs ht
  have S1 := fun w => law_spot P A B X Y F w
  have S2 := fun w => law_spot P A B X' Y' F' w
  rw [Lw.one_ok (s := ⟨X, Y, F⟩) hc hs] at S1
  rw [Lw.one_ok (s := ⟨X', Y', F'⟩) hc ht] at S2
  have FI : ∀ w : World, Calls Try.prog 14 #[.int .i64 0, .int .i64 0] w fun e w' => e = .returned (.int .i64 0) ∧ w = w' := fun w => law_first 0 0 w
  obtain ⟨X2, hX2⟩ : ∃ v, (Lw.addT P A ⟨X, Y, F⟩ ⟨X', Y', F'⟩).X = v := ⟨_, rfl⟩
  obtain ⟨Y2, hY2⟩ : ∃ v, (Lw.addT P A ⟨X, Y, F⟩ ⟨X', Y', F'⟩).Y = v := ⟨_, rfl⟩
  obtain ⟨F2, hF2⟩ : ∃ v, (Lw.addT P A ⟨X, Y, F⟩ ⟨X', Y', F'⟩).F = v := ⟨_, rfl⟩
  have NV : (Lw.addT P A ⟨X, Y, F⟩ ⟨X', Y', F'⟩).v = .agg #[.int .i64 X2, .int .i64 Y2, .bool F2] := by unfold Lw.SpotT.v; rw [hX2, hY2, hF2]
  rw [NV] at N RA
  replace N := Lib.hid N
  replace RA := Lib.hid RA
  replace S1 := Lib.hid S1
  replace S2 := Lib.hid S2
  replace FI := Lib.hid FI
  clear hX2 hY2 hF2 NV hs ht hc
  obtain ⟨W, hW⟩ : ∃ W, ((w.alloc (.cells #[.int .i64 P, .int .i64 A, .int .i64 B] 32)).alloc (.cells #[.int .i64 X, .int .i64 Y, .bool F] 36)).alloc (.cells #[.int .i64 X', .int .i64 Y', .bool F'] 36) = W := ⟨_, rfl⟩
  have B0 := Lib.hid (show W.heap[w.heap.size]? = some (.cells #[.int .i64 P, .int .i64 A, .int .i64 B] 32 (0, 0)) from hW ▸ Lw.blk_alloc (Lw.blk_alloc (Lw.blk_new _ _ _) _) _)
  have B1 := Lib.hid (show W.heap[w.heap.size + 1]? = some (.cells #[.int .i64 X, .int .i64 Y, .bool F] 36 (0, 0)) from hW ▸ Lw.blk_alloc (Lw.blk_new' (by simp) _ _) _)
  have B2 := Lib.hid (show W.heap[w.heap.size + 1 + 1]? = some (.cells #[.int .i64 X', .int .i64 Y', .bool F'] 36 (0, 0)) from hW ▸ Lw.blk_new' (by simp) _ _)
  have hBW : Below w.heap.size w W := by rw [← hW]; exact Lw.balloc (Lw.balloc (Lw.balloc (Below.refl _ _) _) _) _
  have hWs2 : w.heap.size + 1 + 1 < W.heap.size := by rw [← hW]; simp
  have hWs : w.heap.size < W.heap.size := by omega
  have hWs1 : w.heap.size + 1 < W.heap.size := by omega
  have HW := Lib.hid hW
  clear hW
  go_enter Try.func10, Try.ntmps10
  go_wp2_with fail
  rw [HW.out]
  refine (N.out _).mono ?_
  rintro e w1 ⟨rfl, hb1⟩
  have hz1 := hb1.size
  go_wp2_with fail
  obtain ⟨V, hV⟩ : ∃ V, w1.alloc (.cells #[.int .i64 X2, .int .i64 Y2, .bool F2] 36) = V := ⟨_, rfl⟩
  have C0 := hV ▸ Lw.blk_alloc ((hb1.block w.heap.size hWs).trans B0.out) _
  have C1 := hV ▸ Lw.blk_alloc ((hb1.block (w.heap.size + 1) hWs1).trans B1.out) _
  have C2 := hV ▸ Lw.blk_alloc ((hb1.block (w.heap.size + 1 + 1) hWs2).trans B2.out) _
  have C3 := hV ▸ Lw.blk_new w1 #[.int .i64 X2, .int .i64 Y2, .bool F2] 36
  have l0 := Lw.blk_cell C0 0; have l1 := Lw.blk_cell C0 1; have l2 := Lw.blk_cell C0 2
  have k0 := Lw.blk_cell C1 0; have k1 := Lw.blk_cell C1 1; have k2 := Lw.blk_cell C1 2
  have m0 := Lw.blk_cell C2 0; have m1 := Lw.blk_cell C2 1; have m2 := Lw.blk_cell C2 2
  have n0 := Lw.blk_cell C3 0; have n1 := Lw.blk_cell C3 1; have n2 := Lw.blk_cell C3 2
  simp at l0 l1 l2 k0 k1 k2 m0 m1 m2 n0 n1 n2
  have hVs : w1.heap.size < V.heap.size := by rw [← hV]; simp
  have hVs0 : w.heap.size < V.heap.size := by omega
  have hVs1 : w.heap.size + 1 < V.heap.size := by omega
  have hVs2 : w.heap.size + 1 + 1 < V.heap.size := by omega
  have hBV : Below w.heap.size w V := by rw [← hV]; exact Lw.balloc (Lw.bt hBW hb1) _
  rw [hV]
  clear hV C0 C1 C2 C3 B0 B1 B2 HW
  refine wp_region_held_drew (S := Lw.Sm V) (by kernel_rfl) (Lw.sm_drew V) (fun hHeld => ?_)
  (refine Lw.take1 (i := 0) (v := ?_) rfl (by kernel_rfl) (by kernel_rfl) (by kernel_rfl) (fun _ _ _ h => h) (Or.inl ⟨by rfl, ?_⟩) (by assumption) ?_; rotate_left 1; (focus (intro wS hSw; obtain ⟨hS1, hS2, hS3, hS4⟩ := hSw; go_simp <;> with_reducible rfl)); (try simp only [Act.put, List.setIfInBounds_toArray, List.set_cons_zero, List.set_cons_succ]))
  (refine Lw.take1 (i := 1) (v := ?_) rfl (by kernel_rfl) (by kernel_rfl) (by kernel_rfl) (fun _ _ _ h => h) (Or.inl ⟨by rfl, ?_⟩) (by assumption) ?_; rotate_left 1; (focus (intro wS hSw; obtain ⟨hS1, hS2, hS3, hS4⟩ := hSw; go_simp <;> with_reducible rfl)); (try simp only [Act.put, List.setIfInBounds_toArray, List.set_cons_zero, List.set_cons_succ]))
  (refine Lw.take1 (i := 3) (v := ?_) rfl (by kernel_rfl) (by kernel_rfl) (by kernel_rfl) (fun _ _ _ h => h) (Or.inl ⟨by rfl, ?_⟩) (by assumption) ?_; rotate_left 1; (focus (intro wS hSw; obtain ⟨hS1, hS2, hS3, hS4⟩ := hSw; go_simp <;> with_reducible rfl)); (try simp only [Act.put, List.setIfInBounds_toArray, List.set_cons_zero, List.set_cons_succ]))
  (refine Lw.take1 (i := 4) (v := ?_) rfl (by kernel_rfl) (by kernel_rfl) (by kernel_rfl) (fun _ _ _ h => h) (Or.inl ⟨by rfl, ?_⟩) (by assumption) ?_; rotate_left 1; (focus (intro wS hSw; obtain ⟨hS1, hS2, hS3, hS4⟩ := hSw; go_simp <;> with_reducible rfl)); (try simp only [Act.put, List.setIfInBounds_toArray, List.set_cons_zero, List.set_cons_succ]))
  (refine wpAnyH_ready (rs := [2]) (by kernel_rfl) (by simp) ?_; refine Lw.cons1 (i := 2) rfl (fun K hK => ?_) AllReadyH.nil; go_simp; go_at_call 23; (with_reducible refine (S1.out _).mono ?_); rintro e wx ⟨rfl, hbx⟩; refine hK.out _ _ ?_ (fun hHeld => ?_); (focus exact Lw.sm_keep (Lw.sm_drew V) hbx); clear hK K; (try simp only [Act.put, List.setIfInBounds_toArray, List.set_cons_zero, List.set_cons_succ]))
  (refine wpAnyH_ready (rs := [5]) (by kernel_rfl) (by simp) ?_; refine Lw.cons1 (i := 5) rfl (fun K hK => ?_) AllReadyH.nil; go_simp; go_at_call 23; (with_reducible refine (S2.out _).mono ?_); rintro e wy ⟨rfl, hby⟩; refine hK.out _ _ ?_ (fun hHeld => ?_); (focus exact Lw.sm_keep (Lw.sm_keep (Lw.sm_drew V) hbx) hby); clear hK K; (try simp only [Act.put, List.setIfInBounds_toArray, List.set_cons_zero, List.set_cons_succ]))
  (refine wpAnyH_ready (rs := [6]) (by kernel_rfl) (by simp) ?_; refine Lw.cons1 (i := 6) rfl (fun K hK => ?_) AllReadyH.nil; go_simp; go_at_call 14; (with_reducible refine (FI.out _).mono ?_); rintro e wz ⟨rfl, rfl⟩; refine hK.out _ _ ?_ (fun hHeld => ?_); (focus exact Lw.sm_keep (Lw.sm_keep (Lw.sm_drew V) hbx) hby); clear hK K; (try simp only [Act.put, List.setIfInBounds_toArray, List.set_cons_zero, List.set_cons_succ]))
  (refine Lw.take1 (i := 7) (v := ?_) rfl (by kernel_rfl) (by kernel_rfl) (by kernel_rfl) (fun _ _ _ h => h) (Or.inl ⟨by rfl, ?_⟩) (by assumption) ?_; rotate_left 1; (focus (intro wS hSw; obtain ⟨hS1, hS2, hS3, hS4⟩ := hSw; go_simp <;> with_reducible rfl)); (try simp only [Act.put, List.setIfInBounds_toArray, List.set_cons_zero, List.set_cons_succ]))
  refine wpAnyH_done (by kernel_rfl) ?_ _
  have hS := Lw.sm_keep (Lw.sm_keep (Lw.sm_drew V) hbx) hby
  have q0 := (hS.1 ⟨w1.heap.size, 0, none⟩ hVs).trans n0; have q1 := (hS.1 ⟨w1.heap.size, 1, none⟩ hVs).trans n1; have q2 := (hS.1 ⟨w1.heap.size, 2, none⟩ hVs).trans n2
  go_wp2_with fail

  refine wp_region_held_drew (S := Lw.Sm V) (by kernel_rfl) (Lw.sm_drew' hS) (fun hHeld => ?_)
  (refine Lw.take1 (i := 0) (v := ?_) rfl (by kernel_rfl) (by kernel_rfl) (by kernel_rfl) (fun _ _ _ h => h) (Or.inl ⟨by rfl, ?_⟩) (by assumption) ?_; rotate_left 1; (focus (intro wS hSw; obtain ⟨hS1, hS2, hS3, hS4⟩ := hSw; go_simp <;> with_reducible rfl)); (try simp only [Act.put, List.setIfInBounds_toArray, List.set_cons_zero, List.set_cons_succ]))
  (refine Lw.take1 (i := 1) (v := ?_) rfl (by kernel_rfl) (by kernel_rfl) (by kernel_rfl) (fun _ _ _ h => h) (Or.inl ⟨by rfl, ?_⟩) (by assumption) ?_; rotate_left 1; (focus (intro wS hSw; obtain ⟨hS1, hS2, hS3, hS4⟩ := hSw; go_simp <;> with_reducible rfl)); (try simp only [Act.put, List.setIfInBounds_toArray, List.set_cons_zero, List.set_cons_succ]))
  (refine Lw.take1 (i := 2) (v := ?_) rfl (by kernel_rfl) (by kernel_rfl) (by kernel_rfl) (fun _ _ _ h => h) (Or.inl ⟨by rfl, ?_⟩) (by assumption) ?_; rotate_left 1; (focus (intro wS hSw; obtain ⟨hS1, hS2, hS3, hS4⟩ := hSw; go_simp <;> with_reducible rfl)); (try simp only [Act.put, List.setIfInBounds_toArray, List.set_cons_zero, List.set_cons_succ]))
  (refine Lw.take1 (i := 3) (v := ?_) rfl (by kernel_rfl) (by kernel_rfl) (by kernel_rfl) (fun _ _ _ h => h) (Or.inl ⟨by rfl, ?_⟩) (by assumption) ?_; rotate_left 1; (focus (intro wS hSw; obtain ⟨hS1, hS2, hS3, hS4⟩ := hSw; go_simp <;> with_reducible rfl)); (try simp only [Act.put, List.setIfInBounds_toArray, List.set_cons_zero, List.set_cons_succ]))
  (refine Lw.take1 (i := 4) (v := ?_) rfl (by kernel_rfl) (by kernel_rfl) (by kernel_rfl) (fun _ _ _ h => h) (Or.inl ⟨by rfl, ?_⟩) (by assumption) ?_; rotate_left 1; (focus (intro wS hSw; obtain ⟨hS1, hS2, hS3, hS4⟩ := hSw; go_simp <;> with_reducible rfl)); (try simp only [Act.put, List.setIfInBounds_toArray, List.set_cons_zero, List.set_cons_succ]))
  (refine Lw.take1 (i := 5) (v := ?_) rfl (by kernel_rfl) (by kernel_rfl) (by kernel_rfl) (fun _ _ _ h => h) (Or.inl ⟨by rfl, ?_⟩) (by assumption) ?_; rotate_left 1; (focus (intro wS hSw; obtain ⟨hS1, hS2, hS3, hS4⟩ := hSw; go_simp <;> with_reducible rfl)); (try simp only [Act.put, List.setIfInBounds_toArray, List.set_cons_zero, List.set_cons_succ]))
  (refine Lw.take1 (i := 6) (v := ?_) rfl (by kernel_rfl) (by kernel_rfl) (by kernel_rfl) (fun _ _ _ h => h) (Or.inl ⟨by rfl, ?_⟩) (by assumption) ?_; rotate_left 1; (focus (intro wS hSw; obtain ⟨hS1, hS2, hS3, hS4⟩ := hSw; go_simp <;> with_reducible rfl)); (try simp only [Act.put, List.setIfInBounds_toArray, List.set_cons_zero, List.set_cons_succ]))
  (refine wpAnyH_ready (rs := [7]) (by kernel_rfl) (by simp) ?_; refine Lw.cons1 (i := 7) rfl (fun K hK => ?_) AllReadyH.nil; go_simp; go_at_call 36; (with_reducible refine (RA.out _).mono ?_); rintro e wu ⟨rfl, hbu⟩; refine hK.out _ _ ?_ (fun hHeld => ?_); (focus exact Lw.sm_keep (Lw.sm_drew' hS) hbu); clear hK K; (try simp only [Act.put, List.setIfInBounds_toArray, List.set_cons_zero, List.set_cons_succ]))
  (refine Lw.take1 (i := 8) (v := ?_) rfl (by kernel_rfl) (by kernel_rfl) (by kernel_rfl) (fun _ _ _ h => h) (Or.inl ⟨by rfl, ?_⟩) (by assumption) ?_; rotate_left 1; (focus (intro wS hSw; obtain ⟨hS1, hS2, hS3, hS4⟩ := hSw; go_simp <;> with_reducible rfl)); (try simp only [Act.put, List.setIfInBounds_toArray, List.set_cons_zero, List.set_cons_succ]))
  (refine Lw.take1 (i := 9) (v := ?_) rfl (by kernel_rfl) (by kernel_rfl) (by kernel_rfl) (fun _ _ _ h => h) (Or.inl ⟨by rfl, ?_⟩) (by assumption) ?_; rotate_left 1; (focus (intro wS hSw; obtain ⟨hS1, hS2, hS3, hS4⟩ := hSw; go_simp <;> with_reducible rfl)); (try simp only [Act.put, List.setIfInBounds_toArray, List.set_cons_zero, List.set_cons_succ]))
  (refine Lw.take1 (i := 10) (v := ?_) rfl (by kernel_rfl) (by kernel_rfl) (by kernel_rfl) (fun _ _ _ h => h) (Or.inl ⟨by rfl, ?_⟩) (by assumption) ?_; rotate_left 1; (focus (intro wS hSw; obtain ⟨hS1, hS2, hS3, hS4⟩ := hSw; go_simp <;> with_reducible rfl)); (try simp only [Act.put, List.setIfInBounds_toArray, List.set_cons_zero, List.set_cons_succ]))
  refine wpAnyH_done (by kernel_rfl) ?_ _
  have hSu := Lw.sm_keep (Lw.sm_drew' hS) hbu
  go_wp2
  go_ret
  exact ⟨by simp, Lw.bt hBV hSu.2.2.2⟩
theorem CurveAdds (P A B X Y : Int) (F : Bool) (X' Y' : Int) (F' : Bool) (w : World) (wP : (Lit.int .i64 P).wf = true) (wA : (Lit.int .i64 A).wf = true) (wB : (Lit.int .i64 B).wf = true) (wX : (Lit.int .i64 X).wf = true) (wY : (Lit.int .i64 Y).wf = true) (wX' : (Lit.int .i64 X').wf = true) (wY' : (Lit.int .i64 Y').wf = true) :
    Calls Try.prog 10 #[.agg #[.int .i64 P, .int .i64 A, .int .i64 B], .agg #[.int .i64 X, .int .i64 Y, .bool F], .agg #[.int .i64 X', .int .i64 Y', .bool F']] w fun e w' => e = .returned (.bool true) ∧ Below w.heap.size w w' := by
  by_cases h : Lw.sptE P A B [⟨X, Y, F⟩, ⟨X', Y', F'⟩] = 0
  · obtain ⟨hc, hs, ht⟩ := Lw.two_ok h
    exact CurveAdds_ok P A B X Y X' Y' F F' w hc hs ht
  · exact CurveAdds_bad P A B X Y X' Y' F F' w h
end Go.Proofs.Ytoignifimgioaaa.LW

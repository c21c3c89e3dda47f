/- Curves: add. -/
import Derived.Test.YtoignifimgioaaaCrp
namespace Lw
open Go Go.RowKit
theorem addT_far1 {P A : Int} {s t : SpotT} (h : s.F = true) : addT P A s t = t := by unfold addT; rw [if_pos h]
theorem addT_far2 {P A : Int} {s t : SpotT} (h : s.F = false) (h2 : t.F = true) : addT P A s t = s := by unfold addT; rw [if_neg (by simp [h]), if_pos h2]
theorem addT_neg {P A : Int} {s t : SpotT} (h : s.F = false) (h2 : t.F = false) (h3 : s.X = t.X ∧ s.Y = (-t.Y) % P) : addT P A s t = ⟨0, 0, true⟩ := by unfold addT; rw [if_neg (by simp [h]), if_neg (by simp [h2]), if_pos h3]
theorem addT_sum {P A : Int} {s t : SpotT} (h : s.F = false) (h2 : t.F = false) (h3 : ¬ (s.X = t.X ∧ s.Y = (-t.Y) % P)) {k : Int} (hk : slopeI P A s t = k) : addT P A s t = ⟨sumX P k s t, sumY P k (sumX P k s t) s, false⟩ := by
  subst hk; unfold addT; rw [if_neg (by simp [h]), if_neg (by simp [h2]), if_neg h3]
end Lw
set_option linter.unusedVariables false
set_option linter.unusedSimpArgs false
namespace Go.Proofs.Ytoignifimgioaaa
open Go.RowKit
set_option maxHeartbeats 2000000 in
theorem curve_add_far (P A B X Y X' Y' : Int) (F F' : Bool) (w : World) (h : F = true ∨ F' = true) :
    Calls Try.prog 62 #[.agg #[.int .i64 P, .int .i64 A, .int .i64 B], .agg #[.int .i64 X, .int .i64 Y, .bool F], .agg #[.int .i64 X', .int .i64 Y', .bool F']] w fun e w' => e = .returned (Lw.addT P A ⟨X, Y, F⟩ ⟨X', Y', F'⟩).v ∧ Below w.heap.size w w' := by
  cases F with
  | true =>
    have E : Hid ((Lw.addT P A ⟨X, Y, true⟩ ⟨X', Y', F'⟩).v = .agg #[.int .i64 X', .int .i64 Y', .bool F']) := by rw [Lw.addT_far1 rfl]; exact rfl
    clear h
    go_enter Try.func62, Try.ntmps62
    go_wp2_with fail
    refine bodyPost_ret (v := .agg #[.int .i64 X', .int .i64 Y', .bool F']) (by simp only [results, Try.results62]; simp [go_sem]) rfl ⟨by rw [E.out], by (repeat (first | exact Below.refl _ _ | refine Lw.bt ?_ (by assumption) | refine Lw.balloc ?_ _ | refine Lw.bdrewN ?_ _ | refine Below.drew ?_ | refine Lw.bset ?_ (by first | (simp; done) | (simp; omega) | omega) _))⟩
  | false =>
    have h' : F' = true := by simpa using h
    subst h'
    have E : Hid ((Lw.addT P A ⟨X, Y, false⟩ ⟨X', Y', true⟩).v = .agg #[.int .i64 X, .int .i64 Y, .bool false]) := by rw [Lw.addT_far2 rfl rfl]; exact rfl
    clear h
    go_enter Try.func62, Try.ntmps62
    go_wp2_with fail
    refine bodyPost_ret (v := .agg #[.int .i64 X, .int .i64 Y, .bool false]) (by simp only [results, Try.results62]; simp [go_sem]) rfl ⟨by rw [E.out], by (repeat (first | exact Below.refl _ _ | refine Lw.bt ?_ (by assumption) | refine Lw.balloc ?_ _ | refine Lw.bdrewN ?_ _ | refine Below.drew ?_ | refine Lw.bset ?_ (by first | (simp; done) | (simp; omega) | omega) _))⟩
set_option maxHeartbeats 2000000 in
theorem curve_add_neg (P A B X Y X' Y' : Int) (w : World) (h1 : 0 < P) (h2 : P ≤ 1009) (y0 : 0 ≤ Y') (y1 : Y' ≤ 1009) (hx : X = X') (hy : Y = (-Y') % P) :
    Calls Try.prog 62 #[.agg #[.int .i64 P, .int .i64 A, .int .i64 B], .agg #[.int .i64 X, .int .i64 Y, .bool false], .agg #[.int .i64 X', .int .i64 Y', .bool false]] w fun e w' => e = .returned (Lw.addT P A ⟨X, Y, false⟩ ⟨X', Y', false⟩).v ∧ Below w.heap.size w w' := by
  have E : Hid ((Lw.addT P A ⟨X, Y, false⟩ ⟨X', Y', false⟩).v = .agg #[.int .i64 0, .int .i64 0, .bool true]) := by rw [Lw.addT_neg rfl rfl ⟨hx, hy⟩]; exact rfl
  have NG := fun w => curve_neg P A B X' Y' false w h1 h2 (by omega) (by omega)
  have NV : (Lw.negT P ⟨X', Y', false⟩).v = .agg #[.int .i64 X', .int .i64 Y, .bool false] := by unfold Lw.negT; rw [hy]; exact rfl
  rw [NV] at NG
  replace NG := Lib.hid NG
  have t1 : (X == X') = true := by simpa using hx
  clear NV hy hx
  obtain ⟨W, hW⟩ : ∃ W, (((w.alloc (.cells #[.int .i64 P, .int .i64 A, .int .i64 B] 79)).alloc (.cells #[.int .i64 X, .int .i64 Y, .bool false] 36)).alloc (.cells #[.int .i64 X', .int .i64 Y', .bool false] 36)).alloc (.cells #[.int .i64 0, .int .i64 0, .bool false] 36) = W := ⟨_, rfl⟩
  have B0 := show W.heap[w.heap.size]? = some (.cells #[.int .i64 P, .int .i64 A, .int .i64 B] 79 (0, 0)) from hW ▸ Lw.blk_alloc (Lw.blk_alloc (Lw.blk_alloc (Lw.blk_new _ _ _) _) _) _
  have B1 := show W.heap[w.heap.size + 1]? = some (.cells #[.int .i64 X, .int .i64 Y, .bool false] 36 (0, 0)) from hW ▸ Lw.blk_alloc (Lw.blk_alloc (Lw.blk_new' (by simp) _ _) _) _
  have B2 := show W.heap[w.heap.size + 1 + 1]? = some (.cells #[.int .i64 X', .int .i64 Y', .bool false] 36 (0, 0)) from hW ▸ Lw.blk_alloc (Lw.blk_new' (by simp) _ _) _
  have B3 := Lib.hid (show W.heap[w.heap.size + 1 + 1 + 1]? = some (.cells #[.int .i64 0, .int .i64 0, .bool false] 36 (0, 0)) from hW ▸ Lw.blk_new' (by simp) _ _)
  have l0 := Lw.blk_cell B0 0; have l1 := Lw.blk_cell B0 1; have l2 := Lw.blk_cell B0 2
  have k0 := Lw.blk_cell B1 0; have k1 := Lw.blk_cell B1 1; have k2 := Lw.blk_cell B1 2
  have m0 := Lw.blk_cell B2 0; have m1 := Lw.blk_cell B2 1; have m2 := Lw.blk_cell B2 2
  simp at l0 l1 l2 k0 k1 k2 m0 m1 m2
  have hBW : Below w.heap.size w W := by rw [← hW]; exact Lw.balloc (Lw.balloc (Lw.balloc (Lw.balloc (Below.refl _ _) _) _) _) _
  have hWs3 : w.heap.size + 1 + 1 + 1 < W.heap.size := by rw [← hW]; simp
  have hWs : w.heap.size < W.heap.size := by omega
  have hWs1 : w.heap.size + 1 < W.heap.size := by omega
  have hWs2 : w.heap.size + 1 + 1 < W.heap.size := by omega
  have HW := Lib.hid hW
  clear hW B0 B1 B2

  go_enter Try.func62, Try.ntmps62
  go_wp2_with fail
  rw [HW.out]
  refine wp_region_held_drew (S := Lw.Sm W) (by kernel_rfl) (Lw.sm_drew W) (fun hHeld => ?_)
  (refine Lw.take1 (i := 0) (v := ?_) rfl (by kernel_rfl) (by kernel_rfl) (by kernel_rfl) (fun _ _ _ h => h) (Or.inl ⟨by rfl, ?_⟩) (by assumption) ?_; rotate_left 1; (focus (intro wS hSw; obtain ⟨hS1, hS2, hS3, hS4⟩ := hSw; go_simp <;> with_reducible rfl)); (try simp only [Act.put, List.setIfInBounds_toArray, List.set_cons_zero, List.set_cons_succ]))
  (refine Lw.take1 (i := 1) (v := ?_) rfl (by kernel_rfl) (by kernel_rfl) (by kernel_rfl) (fun _ _ _ h => h) (Or.inl ⟨by rfl, ?_⟩) (by assumption) ?_; rotate_left 1; (focus (intro wS hSw; obtain ⟨hS1, hS2, hS3, hS4⟩ := hSw; go_simp <;> with_reducible rfl)); (try simp only [Act.put, List.setIfInBounds_toArray, List.set_cons_zero, List.set_cons_succ]))
  (refine Lw.take1 (i := 2) (v := ?_) rfl (by kernel_rfl) (by kernel_rfl) (by kernel_rfl) (fun _ _ _ h => h) (Or.inl ⟨by rfl, ?_⟩) (by assumption) ?_; rotate_left 1; (focus (intro wS hSw; obtain ⟨hS1, hS2, hS3, hS4⟩ := hSw; go_simp <;> with_reducible rfl)); (try simp only [Act.put, List.setIfInBounds_toArray, List.set_cons_zero, List.set_cons_succ]))
  (refine wpAnyH_ready (rs := [3]) (by kernel_rfl) (by simp) ?_; refine Lw.cons1 (i := 3) rfl (fun K hK => ?_) AllReadyH.nil; go_simp; go_at_call 51; (with_reducible refine (NG.out _).mono ?_); rintro e wx ⟨rfl, hbx⟩; refine hK.out _ _ ?_ (fun hHeld => ?_); (focus exact Lw.sm_keep (Lw.sm_drew W) hbx); clear hK K; (try simp only [Act.put, List.setIfInBounds_toArray, List.set_cons_zero, List.set_cons_succ]))
  (refine Lw.take1 (i := 4) (v := ?_) rfl (by kernel_rfl) (by kernel_rfl) (by kernel_rfl) (fun _ _ _ h => h) (Or.inl ⟨by rfl, ?_⟩) (by assumption) ?_; rotate_left 1; (focus (intro wS hSw; obtain ⟨hS1, hS2, hS3, hS4⟩ := hSw; go_simp <;> with_reducible rfl)); (try simp only [Act.put, List.setIfInBounds_toArray, List.set_cons_zero, List.set_cons_succ]))
  (refine Lw.take1 (i := 5) (v := ?_) rfl (by kernel_rfl) (by kernel_rfl) (by kernel_rfl) (fun _ _ _ h => h) (Or.inl ⟨by rfl, ?_⟩) (by assumption) ?_; rotate_left 1; (focus (intro wS hSw; obtain ⟨hS1, hS2, hS3, hS4⟩ := hSw; go_simp <;> with_reducible rfl)); (try simp only [Act.put, List.setIfInBounds_toArray, List.set_cons_zero, List.set_cons_succ]))
  refine wpAnyH_done (by kernel_rfl) ?_ _
  have hS := Lw.sm_keep (Lw.sm_drew W) hbx
  have D2 := (hS.2.2.2.block (w.heap.size + 1 + 1 + 1) hWs3).trans B3.out
  have hHB := Lw.bt hBW hS.2.2.2
  have f1 := Lw.blk_free D2 0; have f2 := Lw.blk_free D2 1; have f3 := Lw.blk_free D2 2; have c1 := Lw.blk_cell D2 0; have c2 := Lw.blk_cell D2 1; have c3 := Lw.blk_cell D2 2
  simp at c1 c2 c3
  obtain ⟨r0, r1, r2⟩ := Lw.set3c (x := .int .i64 0) (y := .int .i64 0) (z := .bool true) D2
  have r0 := Lib.hid r0; have r1 := Lib.hid r1; have r2 := Lib.hid r2
  clear D2
  go_wp2_with fail
  refine bodyPost_ret (v := .agg #[.int .i64 0, .int .i64 0, .bool true]) (by simp only [results, Try.results62]; simp [go_sem, r0.out, r1.out, r2.out]) rfl ⟨by rw [E.out], Lw.bset3 hHB (by omega) _ _ _⟩
set_option maxHeartbeats 4000000 in
theorem curve_add_sum (P A B X Y X' Y' : Int) (w : World) (hc : Lw.crvR P A B) (x0 : 0 ≤ X) (x1 : X < P) (y0 : 0 ≤ Y) (y1 : Y < P) (u0 : 0 ≤ X') (u1 : X' < P) (v0 : 0 ≤ Y') (v1 : Y' < P) (hn : ¬ (X = X' ∧ Y = (-Y') % P)) :
    Calls Try.prog 62 #[.agg #[.int .i64 P, .int .i64 A, .int .i64 B], .agg #[.int .i64 X, .int .i64 Y, .bool false], .agg #[.int .i64 X', .int .i64 Y', .bool false]] w fun e w' => e = .returned (Lw.addT P A ⟨X, Y, false⟩ ⟨X', Y', false⟩).v ∧ Below w.heap.size w w' := by
  obtain ⟨p1, h2, a0, a1, b0, b1⟩ := hc
  have h1 : 0 < P := by omega
  obtain ⟨k, hk⟩ : ∃ k, Lw.slopeI P A ⟨X, Y, false⟩ ⟨X', Y', false⟩ = k := ⟨_, rfl⟩
  have kb : 0 ≤ k ∧ k < P := by rw [← hk]; unfold Lw.slopeI; split <;> exact Lw.ovI_bd h1 _ _
  obtain ⟨x, hx⟩ : ∃ x, Lw.sumX P k ⟨X, Y, false⟩ ⟨X', Y', false⟩ = x := ⟨_, rfl⟩
  obtain ⟨y, hy⟩ : ∃ y, Lw.sumY P k x ⟨X, Y, false⟩ = y := ⟨_, rfl⟩
  have xb : 0 ≤ x ∧ x < P := by rw [← hx]; exact Lw.emod_bd _ _ h1
  have E : Hid ((Lw.addT P A ⟨X, Y, false⟩ ⟨X', Y', false⟩).v = .agg #[.int .i64 x, .int .i64 y, .bool false]) := by rw [Lw.addT_sum rfl rfl hn hk, hx, hy]; exact rfl
  have NG := fun w => curve_neg P A B X' Y' false w h1 h2 (by omega) (by omega)
  obtain ⟨n, hn'⟩ : ∃ n, (-Y') % P = n := ⟨_, rfl⟩
  have NV : (Lw.negT P ⟨X', Y', false⟩).v = .agg #[.int .i64 X', .int .i64 n, .bool false] := by unfold Lw.negT; rw [← hn']; exact rfl
  rw [NV] at NG
  rw [hn'] at hn
  replace NG := Lib.hid NG
  have O1 := fun w => curve_over P A B (Y' - Y) (X' - X) w h1 h2
  have O2 := fun w => curve_over P A B (3 * X * X + A) (2 * Y) w h1 h2
  have MX := fun w => curve_mod P A B (k * k - X - X') w h1 h2
  have MY := fun w => curve_mod P A B (k * (X - x) - Y) w h1 h2
  have hx' : (k * k - X - X') % P = x := hx
  have hy' : (k * (X - x) - Y) % P = y := hy
  rw [hx'] at MX
  rw [hy'] at MY
  replace MX := Lib.hid MX
  replace MY := Lib.hid MY
  obtain ⟨s0, s1⟩ := Lw.mul_bd' X X 1009 x0 (by omega) x0 (by omega)
  obtain ⟨kk0, kk1⟩ := Lw.mul_bd' k k 1009 kb.1 (by omega) kb.1 (by omega)
  have kx : -1018081 ≤ k * (X - x) ∧ k * (X - x) ≤ 1018081 := by
    have := Lw.mul_bd' k X 1009 kb.1 (by omega) x0 (by omega)
    have := Lw.mul_bd' k x 1009 kb.1 (by omega) xb.1 (by omega)
    rw [Int.mul_sub]; omega
  obtain ⟨kx0, kx1⟩ := kx
  have e1 : IntKind.i64.wrap (3 * X * X) = 3 * X * X := by rw [IntKind.wrap_i64, Int.mul_assoc]; omega
  have e2 : IntKind.i64.wrap (3 * X * X + A) = 3 * X * X + A := by rw [IntKind.wrap_i64, Int.mul_assoc]; omega
  have e3 : IntKind.i64.wrap (k * k) = k * k := by rw [IntKind.wrap_i64]; omega
  have e4 : IntKind.i64.wrap (k * k - X) = k * k - X := by rw [IntKind.wrap_i64]; omega
  have e5 : IntKind.i64.wrap (k * k - X - X') = k * k - X - X' := by rw [IntKind.wrap_i64]; omega
  have e6 : IntKind.i64.wrap (k * (X - x)) = k * (X - x) := by rw [IntKind.wrap_i64]; omega
  have e7 : IntKind.i64.wrap (k * (X - x) - Y) = k * (X - x) - Y := by rw [IntKind.wrap_i64]; omega
  obtain ⟨kb0, kb1⟩ := kb
  obtain ⟨xb0, xb1⟩ := xb
  have hnt : ((X == X') = true ∧ (Y == n) = false) ∨ (X == X') = false := by
    by_cases hxx : X = X'
    · left; refine ⟨by simpa using hxx, ?_⟩; simpa using fun e => hn ⟨hxx, e⟩
    · right; simpa using hxx
  have hst : ((X == X') = true ∧ (Y == Y') = true ∧ k = Lw.ovI P (3 * X * X + A) (2 * Y)) ∨ (((X == X') = false ∨ (Y == Y') = false) ∧ k = Lw.ovI P (Y' - Y) (X' - X)) := by
    by_cases hxx : X = X' ∧ Y = Y'
    · left; refine ⟨by simpa using hxx.1, by simpa using hxx.2, ?_⟩; rw [← hk]; exact if_pos hxx
    · right; refine ⟨?_, ?_⟩
      · by_cases h : X = X'
        · right; simpa using fun e => hxx ⟨h, e⟩
        · left; simpa using h
      · rw [← hk]; exact if_neg hxx
  clear NV hn hx hy hx' hy' hk hn'
  obtain ⟨W, hW⟩ : ∃ W, (((w.alloc (.cells #[.int .i64 P, .int .i64 A, .int .i64 B] 79)).alloc (.cells #[.int .i64 X, .int .i64 Y, .bool false] 36)).alloc (.cells #[.int .i64 X', .int .i64 Y', .bool false] 36)).alloc (.cells #[.int .i64 0, .int .i64 0, .bool false] 36) = W := ⟨_, rfl⟩
  have B0 := show W.heap[w.heap.size]? = some (.cells #[.int .i64 P, .int .i64 A, .int .i64 B] 79 (0, 0)) from hW ▸ Lw.blk_alloc (Lw.blk_alloc (Lw.blk_alloc (Lw.blk_new _ _ _) _) _) _
  have B1 := show W.heap[w.heap.size + 1]? = some (.cells #[.int .i64 X, .int .i64 Y, .bool false] 36 (0, 0)) from hW ▸ Lw.blk_alloc (Lw.blk_alloc (Lw.blk_new' (by simp) _ _) _) _
  have B2 := show W.heap[w.heap.size + 1 + 1]? = some (.cells #[.int .i64 X', .int .i64 Y', .bool false] 36 (0, 0)) from hW ▸ Lw.blk_alloc (Lw.blk_new' (by simp) _ _) _
  have B3 := Lib.hid (show W.heap[w.heap.size + 1 + 1 + 1]? = some (.cells #[.int .i64 0, .int .i64 0, .bool false] 36 (0, 0)) from hW ▸ Lw.blk_new' (by simp) _ _)
  have l0 := Lw.blk_cell B0 0; have l1 := Lw.blk_cell B0 1; have l2 := Lw.blk_cell B0 2
  have k0 := Lw.blk_cell B1 0; have k1 := Lw.blk_cell B1 1; have k2 := Lw.blk_cell B1 2
  have m0 := Lw.blk_cell B2 0; have m1 := Lw.blk_cell B2 1; have m2 := Lw.blk_cell B2 2
  simp at l0 l1 l2 k0 k1 k2 m0 m1 m2
  have hBW : Below w.heap.size w W := by rw [← hW]; exact Lw.balloc (Lw.balloc (Lw.balloc (Lw.balloc (Below.refl _ _) _) _) _) _
  have hWs3 : w.heap.size + 1 + 1 + 1 < W.heap.size := by rw [← hW]; simp
  have hWs : w.heap.size < W.heap.size := by omega
  have hWs1 : w.heap.size + 1 < W.heap.size := by omega
  have hWs2 : w.heap.size + 1 + 1 < W.heap.size := by omega
  have HW := Lib.hid hW
  clear hW B0 B1 B2

  rcases hst with ⟨t1, t2, hk⟩ | ⟨t2, hk⟩
  · rw [← hk] at O2
    replace O2 := Lib.hid O2
    obtain ⟨kz, hkz⟩ : ∃ z, Lw.ovI P (Y' - Y) (X' - X) = z := ⟨_, rfl⟩
    rw [hkz] at O1
    replace O1 := Lib.hid O1
    have t3 : (Y == n) = false := by rcases hnt with h | h; exact h.2; rw [t1] at h; cases h
    clear hk hkz hnt
    go_enter Try.func62, Try.ntmps62
    go_wp2_with fail
    rw [HW.out]
    refine wp_region_held_drew (S := Lw.Sm W) (by kernel_rfl) (Lw.sm_drew W) (fun hHeld => ?_)
    (refine Lw.take1 (i := 0) (v := ?_) rfl (by kernel_rfl) (by kernel_rfl) (by kernel_rfl) (fun _ _ _ h => h) (Or.inl ⟨by rfl, ?_⟩) (by assumption) ?_; rotate_left 1; (focus (intro wS hSw; obtain ⟨hS1, hS2, hS3, hS4⟩ := hSw; go_simp <;> with_reducible rfl)); (try simp only [Act.put, List.setIfInBounds_toArray, List.set_cons_zero, List.set_cons_succ]))
    (refine Lw.take1 (i := 1) (v := ?_) rfl (by kernel_rfl) (by kernel_rfl) (by kernel_rfl) (fun _ _ _ h => h) (Or.inl ⟨by rfl, ?_⟩) (by assumption) ?_; rotate_left 1; (focus (intro wS hSw; obtain ⟨hS1, hS2, hS3, hS4⟩ := hSw; go_simp <;> with_reducible rfl)); (try simp only [Act.put, List.setIfInBounds_toArray, List.set_cons_zero, List.set_cons_succ]))
    (refine Lw.take1 (i := 2) (v := ?_) rfl (by kernel_rfl) (by kernel_rfl) (by kernel_rfl) (fun _ _ _ h => h) (Or.inl ⟨by rfl, ?_⟩) (by assumption) ?_; rotate_left 1; (focus (intro wS hSw; obtain ⟨hS1, hS2, hS3, hS4⟩ := hSw; go_simp <;> with_reducible rfl)); (try simp only [Act.put, List.setIfInBounds_toArray, List.set_cons_zero, List.set_cons_succ]))
    (refine wpAnyH_ready (rs := [3]) (by kernel_rfl) (by simp) ?_; refine Lw.cons1 (i := 3) rfl (fun K hK => ?_) AllReadyH.nil; go_simp; go_at_call 51; (with_reducible refine (NG.out _).mono ?_); rintro e wx ⟨rfl, hbx⟩; refine hK.out _ _ ?_ (fun hHeld => ?_); (focus exact Lw.sm_keep (Lw.sm_drew W) hbx); clear hK K; (try simp only [Act.put, List.setIfInBounds_toArray, List.set_cons_zero, List.set_cons_succ]))
    (refine Lw.take1 (i := 4) (v := ?_) rfl (by kernel_rfl) (by kernel_rfl) (by kernel_rfl) (fun _ _ _ h => h) (Or.inl ⟨by rfl, ?_⟩) (by assumption) ?_; rotate_left 1; (focus (intro wS hSw; obtain ⟨hS1, hS2, hS3, hS4⟩ := hSw; go_simp <;> with_reducible rfl)); (try simp only [Act.put, List.setIfInBounds_toArray, List.set_cons_zero, List.set_cons_succ]))
    (refine Lw.take1 (i := 5) (v := ?_) rfl (by kernel_rfl) (by kernel_rfl) (by kernel_rfl) (fun _ _ _ h => h) (Or.inl ⟨by rfl, ?_⟩) (by assumption) ?_; rotate_left 1; (focus (intro wS hSw; obtain ⟨hS1, hS2, hS3, hS4⟩ := hSw; go_simp <;> with_reducible rfl)); (try simp only [Act.put, List.setIfInBounds_toArray, List.set_cons_zero, List.set_cons_succ]))
    refine wpAnyH_done (by kernel_rfl) ?_ _
    have hS := Lw.sm_keep (Lw.sm_drew W) hbx
    (have q0 := (hS.1 ⟨w.heap.size, 0, none⟩ hWs).trans l0; have q1 := (hS.1 ⟨w.heap.size, 1, none⟩ hWs).trans l1; have q2 := (hS.1 ⟨w.heap.size, 2, none⟩ hWs).trans l2; have q3 := (hS.1 ⟨w.heap.size + 1, 0, none⟩ hWs1).trans k0; have q4 := (hS.1 ⟨w.heap.size + 1, 1, none⟩ hWs1).trans k1; have q5 := (hS.1 ⟨w.heap.size + 1, 2, none⟩ hWs1).trans k2; have q6 := (hS.1 ⟨w.heap.size + 1 + 1, 0, none⟩ hWs2).trans m0; have q7 := (hS.1 ⟨w.heap.size + 1 + 1, 1, none⟩ hWs2).trans m1; have q8 := (hS.1 ⟨w.heap.size + 1 + 1, 2, none⟩ hWs2).trans m2)
    go_wp2_with (first | (go_at_call 74; first | ((with_reducible refine (O1.out _).mono ?_); rintro e w1 ⟨rfl, hb1⟩; have hS1 := Lw.sm_keep hS hb1; (have q0 := (hS1.1 ⟨w.heap.size, 0, none⟩ hWs).trans l0; have q1 := (hS1.1 ⟨w.heap.size, 1, none⟩ hWs).trans l1; have q2 := (hS1.1 ⟨w.heap.size, 2, none⟩ hWs).trans l2; have q3 := (hS1.1 ⟨w.heap.size + 1, 0, none⟩ hWs1).trans k0; have q4 := (hS1.1 ⟨w.heap.size + 1, 1, none⟩ hWs1).trans k1; have q5 := (hS1.1 ⟨w.heap.size + 1, 2, none⟩ hWs1).trans k2; have q6 := (hS1.1 ⟨w.heap.size + 1 + 1, 0, none⟩ hWs2).trans m0; have q7 := (hS1.1 ⟨w.heap.size + 1 + 1, 1, none⟩ hWs2).trans m1; have q8 := (hS1.1 ⟨w.heap.size + 1 + 1, 2, none⟩ hWs2).trans m2)) | ((with_reducible refine (O2.out _).mono ?_); rintro e w2 ⟨rfl, hb2⟩; have hS2 := Lw.sm_keep hS1 hb2; (have q0 := (hS2.1 ⟨w.heap.size, 0, none⟩ hWs).trans l0; have q1 := (hS2.1 ⟨w.heap.size, 1, none⟩ hWs).trans l1; have q2 := (hS2.1 ⟨w.heap.size, 2, none⟩ hWs).trans l2; have q3 := (hS2.1 ⟨w.heap.size + 1, 0, none⟩ hWs1).trans k0; have q4 := (hS2.1 ⟨w.heap.size + 1, 1, none⟩ hWs1).trans k1; have q5 := (hS2.1 ⟨w.heap.size + 1, 2, none⟩ hWs1).trans k2; have q6 := (hS2.1 ⟨w.heap.size + 1 + 1, 0, none⟩ hWs2).trans m0; have q7 := (hS2.1 ⟨w.heap.size + 1 + 1, 1, none⟩ hWs2).trans m1; have q8 := (hS2.1 ⟨w.heap.size + 1 + 1, 2, none⟩ hWs2).trans m2))) | (go_at_call 72; first | ((with_reducible refine (MX.out _).mono ?_); rintro e w3 ⟨rfl, hb3⟩; have hS3 := Lw.sm_keep hS2 hb3; (have q0 := (hS3.1 ⟨w.heap.size, 0, none⟩ hWs).trans l0; have q1 := (hS3.1 ⟨w.heap.size, 1, none⟩ hWs).trans l1; have q2 := (hS3.1 ⟨w.heap.size, 2, none⟩ hWs).trans l2; have q3 := (hS3.1 ⟨w.heap.size + 1, 0, none⟩ hWs1).trans k0; have q4 := (hS3.1 ⟨w.heap.size + 1, 1, none⟩ hWs1).trans k1; have q5 := (hS3.1 ⟨w.heap.size + 1, 2, none⟩ hWs1).trans k2; have q6 := (hS3.1 ⟨w.heap.size + 1 + 1, 0, none⟩ hWs2).trans m0; have q7 := (hS3.1 ⟨w.heap.size + 1 + 1, 1, none⟩ hWs2).trans m1; have q8 := (hS3.1 ⟨w.heap.size + 1 + 1, 2, none⟩ hWs2).trans m2)) | ((with_reducible refine (MY.out _).mono ?_); rintro e w4 ⟨rfl, hb4⟩; have hS4 := Lw.sm_keep hS3 hb4; have D2 := (hS4.2.2.2.block (w.heap.size + 1 + 1 + 1) hWs3).trans B3.out; have f1 := Lw.blk_free D2 0; have f2 := Lw.blk_free D2 1; have f3 := Lw.blk_free D2 2; have c1 := Lw.blk_cell D2 0; have c2 := Lw.blk_cell D2 1; have c3 := Lw.blk_cell D2 2; simp at c1 c2 c3)))
    obtain ⟨r0, r1, r2⟩ := Lw.set3c (x := .int .i64 x) (y := .int .i64 y) (z := .bool false) D2
    refine bodyPost_ret (v := .agg #[.int .i64 x, .int .i64 y, .bool false]) (by simp only [results, Try.results62]; simp [go_sem, r0, r1, r2]) rfl ⟨by rw [E.out], Lw.bset3 (Lw.bt hBW hS4.2.2.2) (by omega) _ _ _⟩
  · rw [← hk] at O1
    replace O1 := Lib.hid O1
    clear hk O2
    have hall : ((X == X') = true ∧ (Y == n) = false ∧ (Y == Y') = false) ∨ (X == X') = false := by
      rcases hnt with ⟨h, h'⟩ | h
      · rcases t2 with h3 | h3
        · rw [h] at h3; cases h3
        · exact .inl ⟨h, h', h3⟩
      · exact .inr h
    clear hnt t2
    rcases hall with ⟨t1, t3, t2⟩ | t1
    all_goals
      go_enter Try.func62, Try.ntmps62
      go_wp2_with fail
      rw [HW.out]
      refine wp_region_held_drew (S := Lw.Sm W) (by kernel_rfl) (Lw.sm_drew W) (fun hHeld => ?_)
      (refine Lw.take1 (i := 0) (v := ?_) rfl (by kernel_rfl) (by kernel_rfl) (by kernel_rfl) (fun _ _ _ h => h) (Or.inl ⟨by rfl, ?_⟩) (by assumption) ?_; rotate_left 1; (focus (intro wS hSw; obtain ⟨hS1, hS2, hS3, hS4⟩ := hSw; go_simp <;> with_reducible rfl)); (try simp only [Act.put, List.setIfInBounds_toArray, List.set_cons_zero, List.set_cons_succ]))
      (refine Lw.take1 (i := 1) (v := ?_) rfl (by kernel_rfl) (by kernel_rfl) (by kernel_rfl) (fun _ _ _ h => h) (Or.inl ⟨by rfl, ?_⟩) (by assumption) ?_; rotate_left 1; (focus (intro wS hSw; obtain ⟨hS1, hS2, hS3, hS4⟩ := hSw; go_simp <;> with_reducible rfl)); (try simp only [Act.put, List.setIfInBounds_toArray, List.set_cons_zero, List.set_cons_succ]))
      (refine Lw.take1 (i := 2) (v := ?_) rfl (by kernel_rfl) (by kernel_rfl) (by kernel_rfl) (fun _ _ _ h => h) (Or.inl ⟨by rfl, ?_⟩) (by assumption) ?_; rotate_left 1; (focus (intro wS hSw; obtain ⟨hS1, hS2, hS3, hS4⟩ := hSw; go_simp <;> with_reducible rfl)); (try simp only [Act.put, List.setIfInBounds_toArray, List.set_cons_zero, List.set_cons_succ]))
      (refine wpAnyH_ready (rs := [3]) (by kernel_rfl) (by simp) ?_; refine Lw.cons1 (i := 3) rfl (fun K hK => ?_) AllReadyH.nil; go_simp; go_at_call 51; (with_reducible refine (NG.out _).mono ?_); rintro e wx ⟨rfl, hbx⟩; refine hK.out _ _ ?_ (fun hHeld => ?_); (focus exact Lw.sm_keep (Lw.sm_drew W) hbx); clear hK K; (try simp only [Act.put, List.setIfInBounds_toArray, List.set_cons_zero, List.set_cons_succ]))
      (refine Lw.take1 (i := 4) (v := ?_) rfl (by kernel_rfl) (by kernel_rfl) (by kernel_rfl) (fun _ _ _ h => h) (Or.inl ⟨by rfl, ?_⟩) (by assumption) ?_; rotate_left 1; (focus (intro wS hSw; obtain ⟨hS1, hS2, hS3, hS4⟩ := hSw; go_simp <;> with_reducible rfl)); (try simp only [Act.put, List.setIfInBounds_toArray, List.set_cons_zero, List.set_cons_succ]))
      (refine Lw.take1 (i := 5) (v := ?_) rfl (by kernel_rfl) (by kernel_rfl) (by kernel_rfl) (fun _ _ _ h => h) (Or.inl ⟨by rfl, ?_⟩) (by assumption) ?_; rotate_left 1; (focus (intro wS hSw; obtain ⟨hS1, hS2, hS3, hS4⟩ := hSw; go_simp <;> with_reducible rfl)); (try simp only [Act.put, List.setIfInBounds_toArray, List.set_cons_zero, List.set_cons_succ]))
      refine wpAnyH_done (by kernel_rfl) ?_ _
      have hS := Lw.sm_keep (Lw.sm_drew W) hbx
      (have q0 := (hS.1 ⟨w.heap.size, 0, none⟩ hWs).trans l0; have q1 := (hS.1 ⟨w.heap.size, 1, none⟩ hWs).trans l1; have q2 := (hS.1 ⟨w.heap.size, 2, none⟩ hWs).trans l2; have q3 := (hS.1 ⟨w.heap.size + 1, 0, none⟩ hWs1).trans k0; have q4 := (hS.1 ⟨w.heap.size + 1, 1, none⟩ hWs1).trans k1; have q5 := (hS.1 ⟨w.heap.size + 1, 2, none⟩ hWs1).trans k2; have q6 := (hS.1 ⟨w.heap.size + 1 + 1, 0, none⟩ hWs2).trans m0; have q7 := (hS.1 ⟨w.heap.size + 1 + 1, 1, none⟩ hWs2).trans m1; have q8 := (hS.1 ⟨w.heap.size + 1 + 1, 2, none⟩ hWs2).trans m2)
      go_wp2_with (first | (go_at_call 74; ((with_reducible refine (O1.out _).mono ?_); rintro e w1 ⟨rfl, hb1⟩; have hS1 := Lw.sm_keep hS hb1; (have q0 := (hS1.1 ⟨w.heap.size, 0, none⟩ hWs).trans l0; have q1 := (hS1.1 ⟨w.heap.size, 1, none⟩ hWs).trans l1; have q2 := (hS1.1 ⟨w.heap.size, 2, none⟩ hWs).trans l2; have q3 := (hS1.1 ⟨w.heap.size + 1, 0, none⟩ hWs1).trans k0; have q4 := (hS1.1 ⟨w.heap.size + 1, 1, none⟩ hWs1).trans k1; have q5 := (hS1.1 ⟨w.heap.size + 1, 2, none⟩ hWs1).trans k2; have q6 := (hS1.1 ⟨w.heap.size + 1 + 1, 0, none⟩ hWs2).trans m0; have q7 := (hS1.1 ⟨w.heap.size + 1 + 1, 1, none⟩ hWs2).trans m1; have q8 := (hS1.1 ⟨w.heap.size + 1 + 1, 2, none⟩ hWs2).trans m2))) | (go_at_call 72; first | ((with_reducible refine (MX.out _).mono ?_); rintro e w3 ⟨rfl, hb3⟩; have hS3 := Lw.sm_keep hS1 hb3; (have q0 := (hS3.1 ⟨w.heap.size, 0, none⟩ hWs).trans l0; have q1 := (hS3.1 ⟨w.heap.size, 1, none⟩ hWs).trans l1; have q2 := (hS3.1 ⟨w.heap.size, 2, none⟩ hWs).trans l2; have q3 := (hS3.1 ⟨w.heap.size + 1, 0, none⟩ hWs1).trans k0; have q4 := (hS3.1 ⟨w.heap.size + 1, 1, none⟩ hWs1).trans k1; have q5 := (hS3.1 ⟨w.heap.size + 1, 2, none⟩ hWs1).trans k2; have q6 := (hS3.1 ⟨w.heap.size + 1 + 1, 0, none⟩ hWs2).trans m0; have q7 := (hS3.1 ⟨w.heap.size + 1 + 1, 1, none⟩ hWs2).trans m1; have q8 := (hS3.1 ⟨w.heap.size + 1 + 1, 2, none⟩ hWs2).trans m2)) | ((with_reducible refine (MY.out _).mono ?_); rintro e w4 ⟨rfl, hb4⟩; have hS4 := Lw.sm_keep hS3 hb4; have D2 := (hS4.2.2.2.block (w.heap.size + 1 + 1 + 1) hWs3).trans B3.out; have f1 := Lw.blk_free D2 0; have f2 := Lw.blk_free D2 1; have f3 := Lw.blk_free D2 2; have c1 := Lw.blk_cell D2 0; have c2 := Lw.blk_cell D2 1; have c3 := Lw.blk_cell D2 2; simp at c1 c2 c3)))
      obtain ⟨r0, r1, r2⟩ := Lw.set3c (x := .int .i64 x) (y := .int .i64 y) (z := .bool false) D2
      refine bodyPost_ret (v := .agg #[.int .i64 x, .int .i64 y, .bool false]) (by simp only [results, Try.results62]; simp [go_sem, r0, r1, r2]) rfl ⟨by rw [E.out], Lw.bset3 (Lw.bt hBW hS4.2.2.2) (by omega) _ _ _⟩
theorem curve_add (P A B X Y X' Y' : Int) (F F' : Bool) (w : World) (hc : Lw.crvR P A B) (hs : Lw.spotB P A B X Y F = true) (ht : Lw.spotB P A B X' Y' F' = true) :
    Calls Try.prog 62 #[.agg #[.int .i64 P, .int .i64 A, .int .i64 B], .agg #[.int .i64 X, .int .i64 Y, .bool F], .agg #[.int .i64 X', .int .i64 Y', .bool F']] w fun e w' => e = .returned (Lw.addT P A ⟨X, Y, F⟩ ⟨X', Y', F'⟩).v ∧ Below w.heap.size w w' := by
  cases F with
  | true => exact curve_add_far P A B X Y X' Y' _ _ w (.inl rfl)
  | false =>
    cases F' with
    | true => exact curve_add_far P A B X Y X' Y' _ _ w (.inr rfl)
    | false =>
      obtain ⟨⟨x0, x1, y0, y1⟩, _⟩ := Lw.spot_in hs
      obtain ⟨⟨u0, u1, v0, v1⟩, _⟩ := Lw.spot_in ht
      by_cases hn : X = X' ∧ Y = (-Y') % P
      · exact curve_add_neg P A B X Y X' Y' w (by have := hc.1; omega) hc.2.1 v0 (by have := hc.2.1; omega) hn.1 hn.2
      · exact curve_add_sum P A B X Y X' Y' w hc x0 x1 y0 y1 u0 u1 v0 v1 hn
end Go.Proofs.Ytoignifimgioaaa

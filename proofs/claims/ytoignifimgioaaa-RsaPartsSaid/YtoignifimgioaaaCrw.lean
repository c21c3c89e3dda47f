/- Curves: spots; curve.mod, curve.right, curve.has and the reference's Spot. -/
import Derived.Test.YtoignifimgioaaaCrv
namespace Lw
def rhs (P A B X : Int) : Int := (X * X * X + A * X + B) % P
def inP (P X Y : Int) : Prop := 0 ≤ X ∧ X < P ∧ 0 ≤ Y ∧ Y < P
instance (P X Y : Int) : Decidable (inP P X Y) := inferInstanceAs (Decidable (_ ∧ _ ∧ _ ∧ _))
/-- is it a spot? -/
def spotB (P A B X Y : Int) (F : Bool) : Bool := if F then decide (X = 0 ∧ Y = 0) else decide (inP P X Y ∧ Y * Y % P = rhs P A B X)
theorem emod_eq_of {a b P : Int} (k : Int) (h : a = b + P * k) : a % P = b % P := by rw [h, Int.add_mul_emod_self_left]
theorem emod_sub_q (x P : Int) : ∃ q, x % P = x - P * q := ⟨x / P, Int.emod_def x P⟩
theorem emod_zero_of {a b P : Int} (h : a % P = b % P) : ∃ k, a = b + P * k := ⟨a / P - b / P, by have h1 := Int.emod_add_mul_ediv a P; have h2 := Int.emod_add_mul_ediv b P; grind⟩
theorem rhs_prog {P A B X : Int} : ((X * X % P + A) * X % P + B) % P = rhs P A B X := by
  unfold rhs
  obtain ⟨q, h⟩ := emod_sub_q (X * X) P
  rw [h]
  obtain ⟨r, h2⟩ := emod_sub_q ((X * X - P * q + A) * X) P
  rw [h2]
  exact emod_eq_of (-(q * X) - r) (by grind)
theorem rhs_ref {P A B X Y : Int} : (Y * Y - pw X 3 P - A * X - B) % P = 0 ↔ Y * Y % P = rhs P A B X := by
  unfold rhs pw
  rw [show Int.toNat 3 = 3 from rfl]
  obtain ⟨q, h⟩ := emod_sub_q (X ^ 3) P
  rw [h]
  have e : (Y * Y - (X ^ 3 - P * q) - A * X - B) % P = (Y * Y - (X * X * X + A * X + B)) % P := emod_eq_of q (by grind)
  rw [e]
  exact Int.emod_eq_emod_iff_emod_sub_eq_zero.symm
end Lw
set_option linter.unusedVariables false
set_option linter.unusedSimpArgs false
namespace Go.Proofs.Ytoignifimgioaaa
open Go.RowKit
theorem curve_mod (P A B a : Int) (w : World) (h1 : 0 < P) (h2 : P ≤ 1009) :
    Calls Try.prog 72 #[.agg #[.int .i64 P, .int .i64 A, .int .i64 B], .int .i64 a] w fun e w' => e = .returned (.int .i64 (a % P)) ∧ Below w.heap.size w w' := by
  go_enter Try.func72, Try.ntmps72
  go_wp2_with (go_at_call 57; refine (euclid_Mod _ _ _ (by omega) (by omega)).mono ?_; rintro e w' ⟨rfl, rfl⟩)
  go_ret
  exact ⟨rfl, by (repeat (first | exact Below.refl _ _ | refine Lw.bt ?_ (by assumption) | refine Lw.balloc ?_ _ | refine Lw.bdrewN ?_ _ | refine Below.drew ?_ | refine Lw.bset ?_ (by first | (simp; done) | (simp; omega) | omega) _))⟩
set_option maxHeartbeats 1000000 in
theorem curve_right (P A B X : Int) (w : World) (h : Lw.crvR P A B) (x0 : 0 ≤ X) (x1 : X < P) :
    Calls Try.prog 54 #[.agg #[.int .i64 P, .int .i64 A, .int .i64 B], .int .i64 X] w fun e w' => e = .returned (.int .i64 (Lw.rhs P A B X)) ∧ Below w.heap.size w w' := by
  obtain ⟨h1, h2, h3, h4, h5, h6⟩ := h
  have hP0 : ¬ P = 0 := by omega
  obtain ⟨m0, m1⟩ := Lw.mul_bd' X X 1009 x0 (by omega) x0 (by omega)
  have r0 := Int.emod_nonneg (X * X) hP0
  have r1 := Int.emod_lt_of_pos (X * X) (by omega : 0 < P)
  obtain ⟨n0, n1⟩ := Lw.mul_bd' (X * X % P + A) X 2018 (by omega) (by omega) x0 (by omega)
  have s0 := Int.emod_nonneg ((X * X % P + A) * X) hP0
  have s1 := Int.emod_lt_of_pos ((X * X % P + A) * X) (by omega : 0 < P)
  have e1 : IntKind.i64.wrap (X * X) = X * X := by rw [IntKind.wrap_i64]; omega
  have e2 : (X * X).tmod P = X * X % P := Int.tmod_eq_emod_of_nonneg m0
  have e3 : IntKind.i64.wrap (X * X % P + A) = X * X % P + A := by rw [IntKind.wrap_i64]; omega
  have e4 : IntKind.i64.wrap ((X * X % P + A) * X) = (X * X % P + A) * X := by rw [IntKind.wrap_i64]; omega
  have e5 : ((X * X % P + A) * X).tmod P = (X * X % P + A) * X % P := Int.tmod_eq_emod_of_nonneg n0
  have e6 : IntKind.i64.wrap ((X * X % P + A) * X % P + B) = (X * X % P + A) * X % P + B := by rw [IntKind.wrap_i64]; omega
  have M := fun w => curve_mod P A B ((X * X % P + A) * X % P + B) w (by omega) h2
  rw [Lw.rhs_prog] at M
  replace M := Lib.hid M
  obtain ⟨W, hW⟩ : ∃ W, w.alloc (.cells #[.int .i64 P, .int .i64 A, .int .i64 B] 79) = W := ⟨_, rfl⟩
  have B0 := show W.heap[w.heap.size]? = some (.cells #[.int .i64 P, .int .i64 A, .int .i64 B] 79 (0, 0)) from hW ▸ Lw.blk_new _ _ _
  have l0 := Lw.blk_cell B0 0; have l1 := Lw.blk_cell B0 1; have l2 := Lw.blk_cell B0 2
  simp at l0 l1 l2
  have hBW : Below w.heap.size w W := by rw [← hW]; exact Lw.balloc (Below.refl _ _) _
  have hWs : w.heap.size < W.heap.size := by rw [← hW]; simp
  have HW := Lib.hid hW
  clear hW B0
  go_enter Try.func54, Try.ntmps54
  go_wp2_with fail
  rw [HW.out]
  refine wp_region_held_drew (S := Lw.Sm W) (by kernel_rfl) (Lw.sm_drew W) (fun hHeld => ?_)
  (refine Lw.take1 (i := 0) (v := ?_) rfl (by kernel_rfl) (by kernel_rfl) (by kernel_rfl) (fun _ _ _ h => h) (Or.inl ⟨by rfl, ?_⟩) (by assumption) ?_; rotate_left 1; (focus (intro wS hSw; obtain ⟨hS1, hS2, hS3, hS4⟩ := hSw; go_simp <;> with_reducible rfl)); (try simp only [Act.put, List.setIfInBounds_toArray, List.set_cons_zero, List.set_cons_succ]))
  (refine Lw.take1 (i := 1) (v := ?_) rfl (by kernel_rfl) (by kernel_rfl) (by kernel_rfl) (fun _ _ _ h => h) (Or.inl ⟨by rfl, ?_⟩) (by assumption) ?_; rotate_left 1; (focus (intro wS hSw; obtain ⟨hS1, hS2, hS3, hS4⟩ := hSw; go_simp <;> with_reducible rfl)); (try simp only [Act.put, List.setIfInBounds_toArray, List.set_cons_zero, List.set_cons_succ]))
  (refine Lw.take1 (i := 2) (v := ?_) rfl (by kernel_rfl) (by kernel_rfl) (by kernel_rfl) (fun _ _ _ h => h) (Or.inl ⟨by rfl, ?_⟩) (by assumption) ?_; rotate_left 1; (focus (intro wS hSw; obtain ⟨hS1, hS2, hS3, hS4⟩ := hSw; go_simp <;> with_reducible rfl)); (try simp only [Act.put, List.setIfInBounds_toArray, List.set_cons_zero, List.set_cons_succ]))
  (refine Lw.take1 (i := 3) (v := ?_) rfl (by kernel_rfl) (by kernel_rfl) (by kernel_rfl) (fun _ _ _ h => h) (Or.inl ⟨by rfl, ?_⟩) (by assumption) ?_; rotate_left 1; (focus (intro wS hSw; obtain ⟨hS1, hS2, hS3, hS4⟩ := hSw; go_simp <;> with_reducible rfl)); (try simp only [Act.put, List.setIfInBounds_toArray, List.set_cons_zero, List.set_cons_succ]))
  (refine Lw.take1 (i := 4) (v := ?_) rfl (by kernel_rfl) (by kernel_rfl) (by kernel_rfl) (fun _ _ _ h => h) (Or.inl ⟨by rfl, ?_⟩) (by assumption) ?_; rotate_left 1; (focus (intro wS hSw; obtain ⟨hS1, hS2, hS3, hS4⟩ := hSw; go_simp <;> with_reducible rfl)); (try simp only [Act.put, List.setIfInBounds_toArray, List.set_cons_zero, List.set_cons_succ]))
  (refine Lw.take1 (i := 5) (v := ?_) rfl (by kernel_rfl) (by kernel_rfl) (by kernel_rfl) (fun _ _ _ h => h) (Or.inl ⟨by rfl, ?_⟩) (by assumption) ?_; rotate_left 1; (focus (intro wS hSw; obtain ⟨hS1, hS2, hS3, hS4⟩ := hSw; go_simp <;> with_reducible rfl)); (try simp only [Act.put, List.setIfInBounds_toArray, List.set_cons_zero, List.set_cons_succ]))
  (refine Lw.take1 (i := 6) (v := ?_) rfl (by kernel_rfl) (by kernel_rfl) (by kernel_rfl) (fun _ _ _ h => h) (Or.inl ⟨by rfl, ?_⟩) (by assumption) ?_; rotate_left 1; (focus (intro wS hSw; obtain ⟨hS1, hS2, hS3, hS4⟩ := hSw; go_simp <;> with_reducible rfl)); (try simp only [Act.put, List.setIfInBounds_toArray, List.set_cons_zero, List.set_cons_succ]))
  (refine Lw.take1 (i := 7) (v := ?_) rfl (by kernel_rfl) (by kernel_rfl) (by kernel_rfl) (fun _ _ _ h => h) (Or.inl ⟨by rfl, ?_⟩) (by assumption) ?_; rotate_left 1; (focus (intro wS hSw; obtain ⟨hS1, hS2, hS3, hS4⟩ := hSw; go_simp <;> with_reducible rfl)); (try simp only [Act.put, List.setIfInBounds_toArray, List.set_cons_zero, List.set_cons_succ]))
  (refine Lw.take1 (i := 8) (v := ?_) rfl (by kernel_rfl) (by kernel_rfl) (by kernel_rfl) (fun _ _ _ h => h) (Or.inl ⟨by rfl, ?_⟩) (by assumption) ?_; rotate_left 1; (focus (intro wS hSw; obtain ⟨hS1, hS2, hS3, hS4⟩ := hSw; go_simp <;> with_reducible rfl)); (try simp only [Act.put, List.setIfInBounds_toArray, List.set_cons_zero, List.set_cons_succ]))
  (refine Lw.take1 (i := 9) (v := ?_) rfl (by kernel_rfl) (by kernel_rfl) (by kernel_rfl) (fun _ _ _ h => h) (Or.inl ⟨by rfl, ?_⟩) (by assumption) ?_; rotate_left 1; (focus (intro wS hSw; obtain ⟨hS1, hS2, hS3, hS4⟩ := hSw; go_simp <;> with_reducible rfl)); (try simp only [Act.put, List.setIfInBounds_toArray, List.set_cons_zero, List.set_cons_succ]))
  (refine Lw.take1 (i := 10) (v := ?_) rfl (by kernel_rfl) (by kernel_rfl) (by kernel_rfl) (fun _ _ _ h => h) (Or.inl ⟨by rfl, ?_⟩) (by assumption) ?_; rotate_left 1; (focus (intro wS hSw; obtain ⟨hS1, hS2, hS3, hS4⟩ := hSw; go_simp <;> with_reducible rfl)); (try simp only [Act.put, List.setIfInBounds_toArray, List.set_cons_zero, List.set_cons_succ]))
  (refine Lw.take1 (i := 11) (v := ?_) rfl (by kernel_rfl) (by kernel_rfl) (by kernel_rfl) (fun _ _ _ h => h) (Or.inl ⟨by rfl, ?_⟩) (by assumption) ?_; rotate_left 1; (focus (intro wS hSw; obtain ⟨hS1, hS2, hS3, hS4⟩ := hSw; go_simp <;> with_reducible rfl)); (try simp only [Act.put, List.setIfInBounds_toArray, List.set_cons_zero, List.set_cons_succ]))
  (refine Lw.take1 (i := 12) (v := ?_) rfl (by kernel_rfl) (by kernel_rfl) (by kernel_rfl) (fun _ _ _ h => h) (Or.inl ⟨by rfl, ?_⟩) (by assumption) ?_; rotate_left 1; (focus (intro wS hSw; obtain ⟨hS1, hS2, hS3, hS4⟩ := hSw; go_simp <;> with_reducible rfl)); (try simp only [Act.put, List.setIfInBounds_toArray, List.set_cons_zero, List.set_cons_succ]))
  (refine Lw.take1 (i := 13) (v := ?_) rfl (by kernel_rfl) (by kernel_rfl) (by kernel_rfl) (fun _ _ _ h => h) (Or.inl ⟨by rfl, ?_⟩) (by assumption) ?_; rotate_left 1; (focus (intro wS hSw; obtain ⟨hS1, hS2, hS3, hS4⟩ := hSw; go_simp <;> with_reducible rfl)); (try simp only [Act.put, List.setIfInBounds_toArray, List.set_cons_zero, List.set_cons_succ]))
  (refine Lw.take1 (i := 14) (v := ?_) rfl (by kernel_rfl) (by kernel_rfl) (by kernel_rfl) (fun _ _ _ h => h) (Or.inl ⟨by rfl, ?_⟩) (by assumption) ?_; rotate_left 1; (focus (intro wS hSw; obtain ⟨hS1, hS2, hS3, hS4⟩ := hSw; go_simp <;> with_reducible rfl)); (try simp only [Act.put, List.setIfInBounds_toArray, List.set_cons_zero, List.set_cons_succ]))
  (refine Lw.take1 (i := 15) (v := ?_) rfl (by kernel_rfl) (by kernel_rfl) (by kernel_rfl) (fun _ _ _ h => h) (Or.inl ⟨by rfl, ?_⟩) (by assumption) ?_; rotate_left 1; (focus (intro wS hSw; obtain ⟨hS1, hS2, hS3, hS4⟩ := hSw; go_simp <;> with_reducible rfl)); (try simp only [Act.put, List.setIfInBounds_toArray, List.set_cons_zero, List.set_cons_succ]))
  (refine Lw.take1 (i := 16) (v := ?_) rfl (by kernel_rfl) (by kernel_rfl) (by kernel_rfl) (fun _ _ _ h => h) (Or.inl ⟨by rfl, ?_⟩) (by assumption) ?_; rotate_left 1; (focus (intro wS hSw; obtain ⟨hS1, hS2, hS3, hS4⟩ := hSw; go_simp <;> with_reducible rfl)); (try simp only [Act.put, List.setIfInBounds_toArray, List.set_cons_zero, List.set_cons_succ]))
  (refine Lw.take1 (i := 17) (v := ?_) rfl (by kernel_rfl) (by kernel_rfl) (by kernel_rfl) (fun _ _ _ h => h) (Or.inl ⟨by rfl, ?_⟩) (by assumption) ?_; rotate_left 1; (focus (intro wS hSw; obtain ⟨hS1, hS2, hS3, hS4⟩ := hSw; go_simp <;> with_reducible rfl)); (try simp only [Act.put, List.setIfInBounds_toArray, List.set_cons_zero, List.set_cons_succ]))
  (refine Lw.take1 (i := 18) (v := ?_) rfl (by kernel_rfl) (by kernel_rfl) (by kernel_rfl) (fun _ _ _ h => h) (Or.inl ⟨by rfl, ?_⟩) (by assumption) ?_; rotate_left 1; (focus (intro wS hSw; obtain ⟨hS1, hS2, hS3, hS4⟩ := hSw; go_simp <;> with_reducible rfl)); (try simp only [Act.put, List.setIfInBounds_toArray, List.set_cons_zero, List.set_cons_succ]))
  (refine Lw.take1 (i := 19) (v := ?_) rfl (by kernel_rfl) (by kernel_rfl) (by kernel_rfl) (fun _ _ _ h => h) (Or.inl ⟨by rfl, ?_⟩) (by assumption) ?_; rotate_left 1; (focus (intro wS hSw; obtain ⟨hS1, hS2, hS3, hS4⟩ := hSw; go_simp <;> with_reducible rfl)); (try simp only [Act.put, List.setIfInBounds_toArray, List.set_cons_zero, List.set_cons_succ]))
  (refine Lw.take1 (i := 20) (v := ?_) rfl (by kernel_rfl) (by kernel_rfl) (by kernel_rfl) (fun _ _ _ h => h) (Or.inl ⟨by rfl, ?_⟩) (by assumption) ?_; rotate_left 1; (focus (intro wS hSw; obtain ⟨hS1, hS2, hS3, hS4⟩ := hSw; go_simp <;> with_reducible rfl)); (try simp only [Act.put, List.setIfInBounds_toArray, List.set_cons_zero, List.set_cons_succ]))
  (refine Lw.take1 (i := 21) (v := ?_) rfl (by kernel_rfl) (by kernel_rfl) (by kernel_rfl) (fun _ _ _ h => h) (Or.inl ⟨by rfl, ?_⟩) (by assumption) ?_; rotate_left 1; (focus (intro wS hSw; obtain ⟨hS1, hS2, hS3, hS4⟩ := hSw; go_simp <;> with_reducible rfl)); (try simp only [Act.put, List.setIfInBounds_toArray, List.set_cons_zero, List.set_cons_succ]))
  (refine wpAnyH_ready (rs := [22]) (by kernel_rfl) (by simp) ?_; refine Lw.cons1 (i := 22) rfl (fun K hK => ?_) AllReadyH.nil; go_simp; go_at_call 72; (with_reducible refine (M.out _).mono ?_); rintro e wx ⟨rfl, hbx⟩; refine hK.out _ _ ?_ (fun hHeld => ?_); (focus exact Lw.sm_keep (Lw.sm_drew W) hbx); clear hK K; (try simp only [Act.put, List.setIfInBounds_toArray, List.set_cons_zero, List.set_cons_succ]))
  (refine Lw.take1 (i := 23) (v := ?_) rfl (by kernel_rfl) (by kernel_rfl) (by kernel_rfl) (fun _ _ _ h => h) (Or.inl ⟨by rfl, ?_⟩) (by assumption) ?_; rotate_left 1; (focus (intro wS hSw; obtain ⟨hS1, hS2, hS3, hS4⟩ := hSw; go_simp <;> with_reducible rfl)); (try simp only [Act.put, List.setIfInBounds_toArray, List.set_cons_zero, List.set_cons_succ]))
  refine wpAnyH_done (by kernel_rfl) ?_ _
  have hS := Lw.sm_keep (Lw.sm_drew W) hbx
  go_wp2
  go_ret
  exact ⟨rfl, Lw.bt hBW hS.2.2.2⟩
set_option maxHeartbeats 2000000 in
theorem curve_has_far (P A B X Y : Int) (w : World) :
    Calls Try.prog 71 #[.agg #[.int .i64 P, .int .i64 A, .int .i64 B], .agg #[.int .i64 X, .int .i64 Y, .bool true]] w fun e w' => e = .returned (.bool (Lw.spotB P A B X Y true)) ∧ Below w.heap.size w w' := by
  have E : Hid (Lw.spotB P A B X Y true = ((X == 0) && (Y == 0))) := by unfold Lw.spotB Hid; by_cases h1 : X = 0 <;> by_cases h2 : Y = 0 <;> simp [h1, h2]
  rcases hx : (X == 0) with _ | _ <;> rcases hy : (Y == 0) with _ | _
  all_goals
    rw [hx, hy] at E
    go_enter Try.func71, Try.ntmps71
    go_wp2
    go_ret
    exact ⟨Lw.ret_bool E.out.symm, by (repeat (first | exact Below.refl _ _ | refine Lw.bt ?_ (by assumption) | refine Lw.balloc ?_ _ | refine Lw.bdrewN ?_ _ | refine Below.drew ?_ | refine Lw.bset ?_ (by first | (simp; done) | (simp; omega) | omega) _))⟩
set_option maxHeartbeats 2000000 in
theorem curve_has_out (P A B X Y : Int) (w : World) (h : ¬ Lw.inP P X Y) :
    Calls Try.prog 71 #[.agg #[.int .i64 P, .int .i64 A, .int .i64 B], .agg #[.int .i64 X, .int .i64 Y, .bool false]] w fun e w' => e = .returned (.bool (Lw.spotB P A B X Y false)) ∧ Below w.heap.size w w' := by
  have E : Hid (Lw.spotB P A B X Y false = false) := by unfold Lw.spotB Hid; simp [h]
  have hc : (X ≤ Y ∧ ¬ 0 ≤ X) ∨ (X ≤ Y ∧ 0 ≤ X ∧ ¬ Y < P) ∨ (Y < X ∧ ¬ 0 ≤ Y) ∨ (Y < X ∧ 0 ≤ Y ∧ ¬ X < P) := by unfold Lw.inP at h; omega
  clear h
  obtain ⟨W, hW⟩ : ∃ W, (w.alloc (.cells #[.int .i64 P, .int .i64 A, .int .i64 B] 79)).alloc (.cells #[.int .i64 X, .int .i64 Y, .bool false] 36) = W := ⟨_, rfl⟩
  have B0 := show W.heap[w.heap.size]? = some (.cells #[.int .i64 P, .int .i64 A, .int .i64 B] 79 (0, 0)) from hW ▸ Lw.blk_alloc (Lw.blk_new _ _ _) _
  have B1 := show W.heap[w.heap.size + 1]? = some (.cells #[.int .i64 X, .int .i64 Y, .bool false] 36 (0, 0)) from hW ▸ Lw.blk_new' (by simp) _ _
  have l0 := Lw.blk_cell B0 0; have l1 := Lw.blk_cell B0 1; have l2 := Lw.blk_cell B0 2
  have k0 := Lw.blk_cell B1 0; have k1 := Lw.blk_cell B1 1; have k2 := Lw.blk_cell B1 2
  simp at l0 l1 l2 k0 k1 k2
  have hBW : Below w.heap.size w W := by rw [← hW]; exact Lw.balloc (Lw.balloc (Below.refl _ _) _) _
  have hWs : w.heap.size < W.heap.size := by rw [← hW]; simp <;> omega
  have hWs1 : w.heap.size + 1 < W.heap.size := by rw [← hW]; simp
  have HW := Lib.hid hW
  have HB0 := Lib.hid B0
  have HB1 := Lib.hid B1
  clear hW B0 B1
  rcases hc with ⟨h1, h2⟩ | ⟨h1, h2, h3⟩ | ⟨h1, h2⟩ | ⟨h1, h2, h3⟩
  all_goals
    go_enter Try.func71, Try.ntmps71
    go_wp2_with fail
    all_goals (try (exfalso; omega))
    all_goals
      rw [HW.out]
      (try rw [decide_eq_false (show ¬ Y < P by omega)])
      (try rw [decide_eq_false (show ¬ X < P by omega)])
      refine wp_region_held_drew (S := Lw.Sm W) (by kernel_rfl) (Lw.sm_drew W) (fun hHeld => ?_)
      (refine Lw.take1 (i := 0) (v := ?_) rfl (by kernel_rfl) (by kernel_rfl) (by kernel_rfl) (fun _ _ _ h => h) (Or.inl ⟨by rfl, ?_⟩) (by assumption) ?_; rotate_left 1; (focus (intro wS hSw; obtain ⟨hS1, hS2, hS3, hS4⟩ := hSw; go_simp <;> with_reducible rfl)); (try simp only [Act.put, List.setIfInBounds_toArray, List.set_cons_zero, List.set_cons_succ]))
      (refine Lw.take1 (i := 1) (v := ?_) rfl (by kernel_rfl) (by kernel_rfl) (by kernel_rfl) (fun _ _ _ h => h) (Or.inl ⟨by rfl, ?_⟩) (by assumption) ?_; rotate_left 1; (focus (intro wS hSw; obtain ⟨hS1, hS2, hS3, hS4⟩ := hSw; go_simp <;> with_reducible rfl)); (try simp only [Act.put, List.setIfInBounds_toArray, List.set_cons_zero, List.set_cons_succ]))
      (refine Lw.take1 (i := 2) (v := undef) rfl (by kernel_rfl) (by kernel_rfl) (by kernel_rfl) (fun _ _ _ h => h) (Or.inr ⟨by rfl, rfl⟩) (by assumption) ?_; (try simp only [Act.put, List.setIfInBounds_toArray, List.set_cons_zero, List.set_cons_succ]))
      (refine Lw.take1 (i := 3) (v := undef) rfl (by kernel_rfl) (by kernel_rfl) (by kernel_rfl) (fun _ _ _ h => h) (Or.inr ⟨by rfl, rfl⟩) (by assumption) ?_; (try simp only [Act.put, List.setIfInBounds_toArray, List.set_cons_zero, List.set_cons_succ]))
      (refine Lw.take1 (i := 4) (v := undef) rfl (by kernel_rfl) (by kernel_rfl) (by kernel_rfl) (fun _ _ _ h => h) (Or.inr ⟨by rfl, rfl⟩) (by assumption) ?_; (try simp only [Act.put, List.setIfInBounds_toArray, List.set_cons_zero, List.set_cons_succ]))
      (refine Lw.take1 (i := 5) (v := undef) rfl (by kernel_rfl) (by kernel_rfl) (by kernel_rfl) (fun _ _ _ h => h) (Or.inr ⟨by rfl, rfl⟩) (by assumption) ?_; (try simp only [Act.put, List.setIfInBounds_toArray, List.set_cons_zero, List.set_cons_succ]))
      (refine Lw.take1 (i := 6) (v := undef) rfl (by kernel_rfl) (by kernel_rfl) (by kernel_rfl) (fun _ _ _ h => h) (Or.inr ⟨by rfl, rfl⟩) (by assumption) ?_; (try simp only [Act.put, List.setIfInBounds_toArray, List.set_cons_zero, List.set_cons_succ]))
      (refine Lw.take1 (i := 7) (v := undef) rfl (by kernel_rfl) (by kernel_rfl) (by kernel_rfl) (fun _ _ _ h => h) (Or.inr ⟨by rfl, rfl⟩) (by assumption) ?_; (try simp only [Act.put, List.setIfInBounds_toArray, List.set_cons_zero, List.set_cons_succ]))
      (refine Lw.take1 (i := 8) (v := undef) rfl (by kernel_rfl) (by kernel_rfl) (by kernel_rfl) (fun _ _ _ h => h) (Or.inr ⟨by rfl, rfl⟩) (by assumption) ?_; (try simp only [Act.put, List.setIfInBounds_toArray, List.set_cons_zero, List.set_cons_succ]))
      (refine Lw.take1 (i := 9) (v := undef) rfl (by kernel_rfl) (by kernel_rfl) (by kernel_rfl) (fun _ _ _ h => h) (Or.inr ⟨by rfl, rfl⟩) (by assumption) ?_; (try simp only [Act.put, List.setIfInBounds_toArray, List.set_cons_zero, List.set_cons_succ]))
      (refine Lw.take1 (i := 10) (v := undef) rfl (by kernel_rfl) (by kernel_rfl) (by kernel_rfl) (fun _ _ _ h => h) (Or.inr ⟨by rfl, rfl⟩) (by assumption) ?_; (try simp only [Act.put, List.setIfInBounds_toArray, List.set_cons_zero, List.set_cons_succ]))
      (refine Lw.take1 (i := 11) (v := undef) rfl (by kernel_rfl) (by kernel_rfl) (by kernel_rfl) (fun _ _ _ h => h) (Or.inr ⟨by rfl, rfl⟩) (by assumption) ?_; (try simp only [Act.put, List.setIfInBounds_toArray, List.set_cons_zero, List.set_cons_succ]))
      (refine Lw.take1 (i := 12) (v := undef) rfl (by kernel_rfl) (by kernel_rfl) (by kernel_rfl) (fun _ _ _ h => h) (Or.inr ⟨by rfl, rfl⟩) (by assumption) ?_; (try simp only [Act.put, List.setIfInBounds_toArray, List.set_cons_zero, List.set_cons_succ]))
      (refine Lw.take1 (i := 13) (v := undef) rfl (by kernel_rfl) (by kernel_rfl) (by kernel_rfl) (fun _ _ _ h => h) (Or.inr ⟨by rfl, rfl⟩) (by assumption) ?_; (try simp only [Act.put, List.setIfInBounds_toArray, List.set_cons_zero, List.set_cons_succ]))
      (refine Lw.take1 (i := 14) (v := undef) rfl (by kernel_rfl) (by kernel_rfl) (by kernel_rfl) (fun _ _ _ h => h) (Or.inr ⟨by rfl, rfl⟩) (by assumption) ?_; (try simp only [Act.put, List.setIfInBounds_toArray, List.set_cons_zero, List.set_cons_succ]))
      (refine Lw.take1 (i := 15) (v := undef) rfl (by kernel_rfl) (by kernel_rfl) (by kernel_rfl) (fun _ _ _ h => h) (Or.inr ⟨by rfl, rfl⟩) (by assumption) ?_; (try simp only [Act.put, List.setIfInBounds_toArray, List.set_cons_zero, List.set_cons_succ]))
      (refine Lw.take1 (i := 16) (v := ?_) rfl (by kernel_rfl) (by kernel_rfl) (by kernel_rfl) (fun _ _ _ h => h) (Or.inl ⟨by rfl, ?_⟩) (by assumption) ?_; rotate_left 1; (focus (intro wS hSw; obtain ⟨hS1, hS2, hS3, hS4⟩ := hSw; go_simp <;> with_reducible rfl)); (try simp only [Act.put, List.setIfInBounds_toArray, List.set_cons_zero, List.set_cons_succ]))
      (refine Lw.take1 (i := 17) (v := ?_) rfl (by kernel_rfl) (by kernel_rfl) (by kernel_rfl) (fun _ _ _ h => h) (Or.inl ⟨by rfl, ?_⟩) (by assumption) ?_; rotate_left 1; (focus (intro wS hSw; obtain ⟨hS1, hS2, hS3, hS4⟩ := hSw; go_simp <;> with_reducible rfl)); (try simp only [Act.put, List.setIfInBounds_toArray, List.set_cons_zero, List.set_cons_succ]))
      refine wpAnyH_done (by kernel_rfl) ?_ _
      go_wp2
      go_ret
      exact ⟨Lw.ret_bool E.out.symm, Below.drew hBW⟩
set_option maxHeartbeats 2000000 in
theorem curve_has_in (P A B X Y : Int) (w : World) (hc : Lw.crvR P A B) (h : Lw.inP P X Y) :
    Calls Try.prog 71 #[.agg #[.int .i64 P, .int .i64 A, .int .i64 B], .agg #[.int .i64 X, .int .i64 Y, .bool false]] w fun e w' => e = .returned (.bool (Lw.spotB P A B X Y false)) ∧ Below w.heap.size w w' := by
  have E : Hid (Lw.spotB P A B X Y false = (Y * Y % P == Lw.rhs P A B X)) := by unfold Lw.spotB Hid; simp [h]; rfl
  have R := Lib.hid (fun w => curve_right P A B X w hc h.1 h.2.1)
  obtain ⟨x0, x1, y0, y1⟩ := h
  obtain ⟨h1, h2, -⟩ := hc
  have hP0 : ¬ P = 0 := by omega
  obtain ⟨m0, m1⟩ := Lw.mul_bd' Y Y 1009 y0 (by omega) y0 (by omega)
  have e1 : IntKind.i64.wrap (Y * Y) = Y * Y := by rw [IntKind.wrap_i64]; omega
  have e2 : (Y * Y).tmod P = Y * Y % P := Int.tmod_eq_emod_of_nonneg m0
  obtain ⟨W, hW⟩ : ∃ W, (w.alloc (.cells #[.int .i64 P, .int .i64 A, .int .i64 B] 79)).alloc (.cells #[.int .i64 X, .int .i64 Y, .bool false] 36) = W := ⟨_, rfl⟩
  have B0 := show W.heap[w.heap.size]? = some (.cells #[.int .i64 P, .int .i64 A, .int .i64 B] 79 (0, 0)) from hW ▸ Lw.blk_alloc (Lw.blk_new _ _ _) _
  have B1 := show W.heap[w.heap.size + 1]? = some (.cells #[.int .i64 X, .int .i64 Y, .bool false] 36 (0, 0)) from hW ▸ Lw.blk_new' (by simp) _ _
  have l0 := Lw.blk_cell B0 0; have l1 := Lw.blk_cell B0 1; have l2 := Lw.blk_cell B0 2
  have k0 := Lw.blk_cell B1 0; have k1 := Lw.blk_cell B1 1; have k2 := Lw.blk_cell B1 2
  simp at l0 l1 l2 k0 k1 k2
  have hBW : Below w.heap.size w W := by rw [← hW]; exact Lw.balloc (Lw.balloc (Below.refl _ _) _) _
  have hWs : w.heap.size < W.heap.size := by rw [← hW]; simp <;> omega
  have hWs1 : w.heap.size + 1 < W.heap.size := by rw [← hW]; simp
  have HW := Lib.hid hW
  have HB0 := Lib.hid B0
  have HB1 := Lib.hid B1
  clear hW B0 B1
  have hXY : X ≤ Y ∨ Y < X := by omega
  rcases hXY with hXY | hXY
  all_goals
    go_enter Try.func71, Try.ntmps71
    go_wp2_with fail
    all_goals (try (exfalso; omega))
    all_goals
      rw [HW.out]
      refine wp_region_held_drew (S := Lw.Sm W) (by kernel_rfl) (Lw.sm_drew W) (fun hHeld => ?_)
      (refine Lw.take1 (i := 0) (v := ?_) rfl (by kernel_rfl) (by kernel_rfl) (by kernel_rfl) (fun _ _ _ h => h) (Or.inl ⟨by rfl, ?_⟩) (by assumption) ?_; rotate_left 1; (focus (intro wS hSw; obtain ⟨hS1, hS2, hS3, hS4⟩ := hSw; go_simp <;> with_reducible rfl)); (try simp only [Act.put, List.setIfInBounds_toArray, List.set_cons_zero, List.set_cons_succ]))
      (refine Lw.take1 (i := 1) (v := ?_) rfl (by kernel_rfl) (by kernel_rfl) (by kernel_rfl) (fun _ _ _ h => h) (Or.inl ⟨by rfl, ?_⟩) (by assumption) ?_; rotate_left 1; (focus (intro wS hSw; obtain ⟨hS1, hS2, hS3, hS4⟩ := hSw; go_simp <;> with_reducible rfl)); (try simp only [Act.put, List.setIfInBounds_toArray, List.set_cons_zero, List.set_cons_succ]))
      (refine Lw.take1 (i := 2) (v := ?_) rfl (by kernel_rfl) (by kernel_rfl) (by kernel_rfl) (fun _ _ _ h => h) (Or.inl ⟨by rfl, ?_⟩) (by assumption) ?_; rotate_left 1; (focus (intro wS hSw; obtain ⟨hS1, hS2, hS3, hS4⟩ := hSw; go_simp <;> with_reducible rfl)); (try simp only [Act.put, List.setIfInBounds_toArray, List.set_cons_zero, List.set_cons_succ]))
      (refine Lw.take1 (i := 3) (v := ?_) rfl (by kernel_rfl) (by kernel_rfl) (by kernel_rfl) (fun _ _ _ h => h) (Or.inl ⟨by rfl, ?_⟩) (by assumption) ?_; rotate_left 1; (focus (intro wS hSw; obtain ⟨hS1, hS2, hS3, hS4⟩ := hSw; go_simp <;> with_reducible rfl)); (try simp only [Act.put, List.setIfInBounds_toArray, List.set_cons_zero, List.set_cons_succ]))
      (refine Lw.take1 (i := 4) (v := ?_) rfl (by kernel_rfl) (by kernel_rfl) (by kernel_rfl) (fun _ _ _ h => h) (Or.inl ⟨by rfl, ?_⟩) (by assumption) ?_; rotate_left 1; (focus (intro wS hSw; obtain ⟨hS1, hS2, hS3, hS4⟩ := hSw; go_simp <;> with_reducible rfl)); (try simp only [Act.put, List.setIfInBounds_toArray, List.set_cons_zero, List.set_cons_succ]))
      (refine Lw.take1 (i := 5) (v := ?_) rfl (by kernel_rfl) (by kernel_rfl) (by kernel_rfl) (fun _ _ _ h => h) (Or.inl ⟨by rfl, ?_⟩) (by assumption) ?_; rotate_left 1; (focus (intro wS hSw; obtain ⟨hS1, hS2, hS3, hS4⟩ := hSw; go_simp <;> with_reducible rfl)); (try simp only [Act.put, List.setIfInBounds_toArray, List.set_cons_zero, List.set_cons_succ]))
      (refine Lw.take1 (i := 6) (v := ?_) rfl (by kernel_rfl) (by kernel_rfl) (by kernel_rfl) (fun _ _ _ h => h) (Or.inl ⟨by rfl, ?_⟩) (by assumption) ?_; rotate_left 1; (focus (intro wS hSw; obtain ⟨hS1, hS2, hS3, hS4⟩ := hSw; go_simp <;> with_reducible rfl)); (try simp only [Act.put, List.setIfInBounds_toArray, List.set_cons_zero, List.set_cons_succ]))
      (refine Lw.take1 (i := 7) (v := ?_) rfl (by kernel_rfl) (by kernel_rfl) (by kernel_rfl) (fun _ _ _ h => h) (Or.inl ⟨by rfl, ?_⟩) (by assumption) ?_; rotate_left 1; (focus (intro wS hSw; obtain ⟨hS1, hS2, hS3, hS4⟩ := hSw; go_simp <;> with_reducible rfl)); (try simp only [Act.put, List.setIfInBounds_toArray, List.set_cons_zero, List.set_cons_succ]))
      (refine Lw.take1 (i := 8) (v := ?_) rfl (by kernel_rfl) (by kernel_rfl) (by kernel_rfl) (fun _ _ _ h => h) (Or.inl ⟨by rfl, ?_⟩) (by assumption) ?_; rotate_left 1; (focus (intro wS hSw; obtain ⟨hS1, hS2, hS3, hS4⟩ := hSw; go_simp <;> with_reducible rfl)); (try simp only [Act.put, List.setIfInBounds_toArray, List.set_cons_zero, List.set_cons_succ]))
      (refine Lw.take1 (i := 9) (v := ?_) rfl (by kernel_rfl) (by kernel_rfl) (by kernel_rfl) (fun _ _ _ h => h) (Or.inl ⟨by rfl, ?_⟩) (by assumption) ?_; rotate_left 1; (focus (intro wS hSw; obtain ⟨hS1, hS2, hS3, hS4⟩ := hSw; go_simp <;> with_reducible rfl)); (try simp only [Act.put, List.setIfInBounds_toArray, List.set_cons_zero, List.set_cons_succ]))
      (refine Lw.take1 (i := 10) (v := ?_) rfl (by kernel_rfl) (by kernel_rfl) (by kernel_rfl) (fun _ _ _ h => h) (Or.inl ⟨by rfl, ?_⟩) (by assumption) ?_; rotate_left 1; (focus (intro wS hSw; obtain ⟨hS1, hS2, hS3, hS4⟩ := hSw; go_simp <;> with_reducible rfl)); (try simp only [Act.put, List.setIfInBounds_toArray, List.set_cons_zero, List.set_cons_succ]))
      (refine Lw.take1 (i := 11) (v := ?_) rfl (by kernel_rfl) (by kernel_rfl) (by kernel_rfl) (fun _ _ _ h => h) (Or.inl ⟨by rfl, ?_⟩) (by assumption) ?_; rotate_left 1; (focus (intro wS hSw; obtain ⟨hS1, hS2, hS3, hS4⟩ := hSw; go_simp <;> with_reducible rfl)); (try simp only [Act.put, List.setIfInBounds_toArray, List.set_cons_zero, List.set_cons_succ]))
      (refine Lw.take1 (i := 12) (v := ?_) rfl (by kernel_rfl) (by kernel_rfl) (by kernel_rfl) (fun _ _ _ h => h) (Or.inl ⟨by rfl, ?_⟩) (by assumption) ?_; rotate_left 1; (focus (intro wS hSw; obtain ⟨hS1, hS2, hS3, hS4⟩ := hSw; go_simp <;> with_reducible rfl)); (try simp only [Act.put, List.setIfInBounds_toArray, List.set_cons_zero, List.set_cons_succ]))
      (refine Lw.take1 (i := 13) (v := ?_) rfl (by kernel_rfl) (by kernel_rfl) (by kernel_rfl) (fun _ _ _ h => h) (Or.inl ⟨by rfl, ?_⟩) (by assumption) ?_; rotate_left 1; (focus (intro wS hSw; obtain ⟨hS1, hS2, hS3, hS4⟩ := hSw; go_simp <;> with_reducible rfl)); (try simp only [Act.put, List.setIfInBounds_toArray, List.set_cons_zero, List.set_cons_succ]))
      (refine wpAnyH_ready (rs := [14]) (by kernel_rfl) (by simp) ?_; refine Lw.cons1 (i := 14) rfl (fun K hK => ?_) AllReadyH.nil; go_simp; go_at_call 54; (with_reducible refine (R.out _).mono ?_); rintro e wx ⟨rfl, hbx⟩; refine hK.out _ _ ?_ (fun hHeld => ?_); (focus exact Lw.sm_keep (Lw.sm_drew W) hbx); clear hK K; (try simp only [Act.put, List.setIfInBounds_toArray, List.set_cons_zero, List.set_cons_succ]))
      (refine Lw.take1 (i := 15) (v := ?_) rfl (by kernel_rfl) (by kernel_rfl) (by kernel_rfl) (fun _ _ _ h => h) (Or.inl ⟨by rfl, ?_⟩) (by assumption) ?_; rotate_left 1; (focus (intro wS hSw; obtain ⟨hS1, hS2, hS3, hS4⟩ := hSw; go_simp <;> with_reducible rfl)); (try simp only [Act.put, List.setIfInBounds_toArray, List.set_cons_zero, List.set_cons_succ]))
      (refine Lw.take1 (i := 16) (v := ?_) rfl (by kernel_rfl) (by kernel_rfl) (by kernel_rfl) (fun _ _ _ h => h) (Or.inl ⟨by rfl, ?_⟩) (by assumption) ?_; rotate_left 1; (focus (intro wS hSw; obtain ⟨hS1, hS2, hS3, hS4⟩ := hSw; go_simp <;> with_reducible rfl)); (try simp only [Act.put, List.setIfInBounds_toArray, List.set_cons_zero, List.set_cons_succ]))
      (refine Lw.take1 (i := 17) (v := ?_) rfl (by kernel_rfl) (by kernel_rfl) (by kernel_rfl) (fun _ _ _ h => h) (Or.inl ⟨by rfl, ?_⟩) (by assumption) ?_; rotate_left 1; (focus (intro wS hSw; obtain ⟨hS1, hS2, hS3, hS4⟩ := hSw; go_simp <;> with_reducible rfl)); (try simp only [Act.put, List.setIfInBounds_toArray, List.set_cons_zero, List.set_cons_succ]))
      refine wpAnyH_done (by kernel_rfl) ?_ _
      have hS := Lw.sm_keep (Lw.sm_drew W) hbx
      go_wp2
      go_ret
      exact ⟨Lw.ret_bool E.out.symm, Lw.bt hBW hS.2.2.2⟩
theorem curve_has (P A B X Y : Int) (F : Bool) (w : World) (hc : Lw.crvR P A B) :
    Calls Try.prog 71 #[.agg #[.int .i64 P, .int .i64 A, .int .i64 B], .agg #[.int .i64 X, .int .i64 Y, .bool F]] w fun e w' => e = .returned (.bool (Lw.spotB P A B X Y F)) ∧ Below w.heap.size w w' := by
  cases F
  · by_cases h : Lw.inP P X Y
    · exact curve_has_in P A B X Y w hc h
    · exact curve_has_out P A B X Y w h
  · exact curve_has_far P A B X Y w
set_option maxHeartbeats 2000000 in
theorem ref_Spot_far (P A B X Y : Int) (w : World) :
    Calls Try.prog 52 #[.agg #[.int .i64 P, .int .i64 A, .int .i64 B], .agg #[.int .i64 X, .int .i64 Y, .bool true]] w fun e w' => e = .returned (.bool (Lw.spotB P A B X Y true)) ∧ Below w.heap.size w w' := by
  have E : Hid (Lw.spotB P A B X Y true = ((X == 0) && (Y == 0))) := by unfold Lw.spotB Hid; by_cases h1 : X = 0 <;> by_cases h2 : Y = 0 <;> simp [h1, h2]
  rcases hx : (X == 0) with _ | _ <;> rcases hy : (Y == 0) with _ | _
  all_goals
    rw [hx, hy] at E
    go_enter Try.func52, Try.ntmps52
    go_wp2
    go_ret
    exact ⟨Lw.ret_bool E.out.symm, by (repeat (first | exact Below.refl _ _ | refine Lw.bt ?_ (by assumption) | refine Lw.balloc ?_ _ | refine Lw.bdrewN ?_ _ | refine Below.drew ?_ | refine Lw.bset ?_ (by first | (simp; done) | (simp; omega) | omega) _))⟩
set_option maxHeartbeats 2000000 in
theorem ref_Spot_out (P A B X Y : Int) (w : World) (h : ¬ Lw.inP P X Y) :
    Calls Try.prog 52 #[.agg #[.int .i64 P, .int .i64 A, .int .i64 B], .agg #[.int .i64 X, .int .i64 Y, .bool false]] w fun e w' => e = .returned (.bool (Lw.spotB P A B X Y false)) ∧ Below w.heap.size w w' := by
  have E : Hid (Lw.spotB P A B X Y false = false) := by unfold Lw.spotB Hid; simp [h]
  have hc : X < 0 ∨ (0 ≤ X ∧ P ≤ X) ∨ (0 ≤ X ∧ X < P ∧ Y < 0) ∨ (0 ≤ X ∧ X < P ∧ 0 ≤ Y ∧ P ≤ Y) := by unfold Lw.inP at h; omega
  clear h
  rcases hc with h1 | ⟨h1, h2⟩ | ⟨h1, h2, h3⟩ | ⟨h1, h2, h3, h4⟩
  all_goals
    go_enter Try.func52, Try.ntmps52
    go_wp2
    go_ret
    exact ⟨Lw.ret_bool E.out.symm, by (repeat (first | exact Below.refl _ _ | refine Lw.bt ?_ (by assumption) | refine Lw.balloc ?_ _ | refine Lw.bdrewN ?_ _ | refine Below.drew ?_ | refine Lw.bset ?_ (by first | (simp; done) | (simp; omega) | omega) _))⟩
set_option maxHeartbeats 2000000 in
theorem ref_Spot_in (P A B X Y : Int) (w : World) (hc : Lw.crvR P A B) (h : Lw.inP P X Y) :
    Calls Try.prog 52 #[.agg #[.int .i64 P, .int .i64 A, .int .i64 B], .agg #[.int .i64 X, .int .i64 Y, .bool false]] w fun e w' => e = .returned (.bool (Lw.spotB P A B X Y false)) ∧ Below w.heap.size w w' := by
  have E : Hid (Lw.spotB P A B X Y false = ((Y * Y - Lw.pw X 3 P - A * X - B) % P == 0)) := by
    unfold Lw.spotB Hid
    have e := Lw.rhs_ref (P := P) (A := A) (B := B) (X := X) (Y := Y)
    rw [if_neg (by simp), Bool.eq_iff_iff, decide_eq_true_eq, beq_iff_eq, e]
    exact ⟨fun hx => hx.2, fun hx => ⟨h, hx⟩⟩
  obtain ⟨x0, x1, y0, y1⟩ := h
  obtain ⟨h1, h2, h3, h4, h5, h6⟩ := hc
  obtain ⟨m0, m1⟩ := Lw.mul_bd' Y Y 1009 y0 (by omega) y0 (by omega)
  obtain ⟨n0, n1⟩ := Lw.mul_bd' A X 1009 h3 (by omega) x0 (by omega)
  obtain ⟨p0, p1⟩ := Lw.pw_bd X 3 P (by omega)
  have X3 := Lib.hid (fun w => ref_Pow _ X 3 P w (Nat.le_refl _) (by omega) (by omega) (by omega) (by omega))
  have X4 := Lib.hid (fun w => ref_Mod (Y * Y - Lw.pw X 3 P - A * X - B) P w (by omega) (by omega))
  have e1 : IntKind.i64.wrap (Y * Y) = Y * Y := by rw [IntKind.wrap_i64]; omega
  have e2 : IntKind.i64.wrap (Y * Y - Lw.pw X 3 P) = Y * Y - Lw.pw X 3 P := by rw [IntKind.wrap_i64]; omega
  have e3 : IntKind.i64.wrap (A * X) = A * X := by rw [IntKind.wrap_i64]; omega
  have e4 : IntKind.i64.wrap (Y * Y - Lw.pw X 3 P - A * X) = Y * Y - Lw.pw X 3 P - A * X := by rw [IntKind.wrap_i64]; omega
  have e5 : IntKind.i64.wrap (Y * Y - Lw.pw X 3 P - A * X - B) = Y * Y - Lw.pw X 3 P - A * X - B := by rw [IntKind.wrap_i64]; omega
  go_enter Try.func52, Try.ntmps52
  go_wp2_with fail
  go_quiet ((first | (go_at_call 42; with_reducible exact Lw.quiet (X3.out _)) | (go_at_call 31; with_reducible exact Lw.quiet (X4.out _))))
  go_wp2
  go_ret
  exact ⟨Lw.ret_bool E.out.symm, by (repeat (first | exact Below.refl _ _ | refine Lw.bt ?_ (by assumption) | refine Lw.balloc ?_ _ | refine Lw.bdrewN ?_ _ | refine Below.drew ?_ | refine Lw.bset ?_ (by first | (simp; done) | (simp; omega) | omega) _))⟩
theorem ref_Spot (P A B X Y : Int) (F : Bool) (w : World) (hc : Lw.crvR P A B) :
    Calls Try.prog 52 #[.agg #[.int .i64 P, .int .i64 A, .int .i64 B], .agg #[.int .i64 X, .int .i64 Y, .bool F]] w fun e w' => e = .returned (.bool (Lw.spotB P A B X Y F)) ∧ Below w.heap.size w w' := by
  cases F
  · by_cases h : Lw.inP P X Y
    · exact ref_Spot_in P A B X Y w hc h
    · exact ref_Spot_out P A B X Y w h
  · exact ref_Spot_far P A B X Y w
end Go.Proofs.Ytoignifimgioaaa

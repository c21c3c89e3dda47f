/- poly.Through: Newton's way walked. -/
import Derived.Test.YtlgegdmnbhoepaaPlx
set_option linter.unusedVariables false
set_option linter.unusedSimpArgs false
namespace Go.Proofs.Ytlgegdmnbhoepaa
open Go.RowKit
theorem poly_Through_bad (p : Int) (A : Option Addr) (n c : Nat) (L : List Lw.PtT) (w : World) (R : Lw.Rd w 2 A n (Lw.pairsV .i64 .i64 L)) (hw : ∀ r ∈ L, (Lit.int .i64 r.1).wf = true) (h0 : ¬ Lw.ptsE p L = 0) :
    Calls Try.prog 128 #[.int .i64 p, .slice A n c] w fun e w' => e = .returned (.tuple #[.slice none 0 0, .int .i64 (Lw.ptsE p L)]) ∧ Below w.heap.size w w' := by
  have X := Lib.hid (poly_wrong p A n c L w R hw)
  have z : (Lw.ptsE p L != 0) = true := by simpa using h0
  have z' : (Lw.ptsE p L == 0) = false := by simpa using h0
  generalize Lw.ptsE p L = E at *
  clear R hw h0
  go_enter Try.func128, Try.ntmps128
  go_wp2_with fail
  refine X.out.mono ?_
  rintro e w1 ⟨rfl, hb1⟩
  go_wp2_with fail
  go_ret2
  exact ⟨rfl, hb1⟩
set_option maxRecDepth 100000 in
set_option maxHeartbeats 4000000 in
theorem poly_Through_ok (p : Int) (A : Option Addr) (n c : Nat) (L : List Lw.PtT) (w : World) (R : Lw.Rd w 2 A n (Lw.pairsV .i64 .i64 L)) (hw : ∀ r ∈ L, (Lit.int .i64 r.1).wf = true) (h0 : Lw.ptsE p L = 0) :
    Calls Try.prog 128 #[.int .i64 p, .slice A n c] w fun e w' => ∃ C m d, e = .returned (.tuple #[.slice C m d, .int .i64 0]) ∧ Lw.Rd w' 1 C m (Lw.intsV .i64 (Lw.nst p L L.length).1) ∧ Below w.heap.size w w' := by
  have X := poly_wrong p A n c L w R hw
  rw [h0] at X
  replace X := Lib.hid X
  obtain ⟨hp, h13, hL⟩ := Lw.pts_ok h0
  obtain ⟨p1, p2, pp⟩ := Lw.ppr_ok hp
  have lL := Lw.pairsV_len R
  have NA := Lib.hid (fun k hk => Lw.new_all p1 p2 pp hL k hk)
  have BD := Lib.hid (fun k hk => hL.bd (k := k) hk)
  have LL := Lib.hid lL
  have n13 : n ≤ 13 := by omega
  have IB := Lib.hid (fun a (h1 : 0 < a) (h2 : a < p) => Lw.inv_prime (p := p) (b := a) pp (by omega) h1 h2)
  have R := Lib.hid R
  have hp0 : ¬ p = 0 := by omega
  clear hw h0 hp hL pp lL h13
  go_enter Try.func128, Try.ntmps128
  go_wp2_with fail
  refine X.out.mono ?_
  rintro e w1 ⟨rfl, hb1⟩
  go_wp2_with fail
  go_loopw [7, 8, 10, 11, 12, 22] (fun av zv vv gv kv i wr => ∃ (k : Nat) (A1 : Option Addr) (n1 c1 : Nat) (A2 : Option Addr) (n2 c2 : Nat), i = .int .i64 (k : Int) ∧ k ≤ n ∧ av = .slice A1 n1 c1 ∧ zv = .slice A2 n2 c2 ∧ Hid (Lw.Rd wr 1 A1 n1 (Lw.intsV .i64 (Lw.nst p L k).1)) ∧ Hid (Lw.Rd wr 1 A2 n2 (Lw.intsV .i64 (Lw.nst p L k).2)) ∧ Below w.heap.size w wr) (fun _ _ _ _ _ i _ => n - (intOf i).toNat)
  case atStart => exact ⟨0, none, 0, 0, _, 1, _, rfl, by omega, rfl, rfl, Lw.Rd.nil _ _ _, by exact Lw.Rd.lit (Lw.blk_new' (by simp) _ _) rfl rfl, Lw.balloc hb1 _⟩
  case round =>
    obtain ⟨k, A1, n1, c1, A2, n2, c2, rfl, hk, rfl, rfl, RA, RZ, hB⟩ := hrel
    by_cases hlt : k < n
    · have hl : k < L.length := by rw [LL.out]; exact hlt
      obtain ⟨g0, g1⟩ := Lw.pairsV_get (k := .i64) (l := .i64) hl
      obtain ⟨ad, rfl, had, d0, d1⟩ := (R.out.below (Nat.le_refl _) hB).at2 hlt g0 g1
      obtain ⟨N1, N2, N3, N4, _, _, _, N8⟩ := NA.out k (by omega)
      have NX : Hid (Lw.nst p L (k + 1) = (Lw.plusL p (Lw.nst p L k).1 (Lw.nst p L k).2 (Lw.gapK p (Lw.nst p L k).1 (Lw.nst p L k).2 (Lw.ptG L k)) 0, Lw.timesK p (Lw.nst p L k).2 [(-(Lw.ptG L k).1) % p, 1] (Lw.nst p L k).2.length)) := Lib.hid rfl
      have hB0 := N8 k (Nat.le_refl _) hl
      obtain ⟨⟨x0, x1⟩, y0, y1⟩ := BD.out k hl
      rw [← Lw.horn_at x0 x1] at hB0
      have gp := Lw.gap_bd (by omega : 0 < p) (Lw.nst p L k).1 (Lw.nst p L k).2 (Lw.ptG L k)
      rw [← Lw.ptG_at hl] at d0 d1
      obtain ⟨⟨x, y⟩, hx⟩ : ∃ z, Lw.ptG L k = z := ⟨_, rfl⟩
      rw [hx] at d0 d1 NX hB0 x0 x1 y0 y1 gp
      simp only at d0 d1 NX hB0 x0 x1 y0 y1
      generalize (Lw.nst p L k).1 = a at *
      generalize (Lw.nst p L k).2 = z at *
      have la : a.length = n1 := by have := RA.out.1; simpa [Lw.intsV] using this
      have lz : z.length = n2 := by have := RZ.out.1; simpa [Lw.intsV] using this
      have PA := Lib.hid (fun W' (hb : Below wr.heap.size wr W') => poly_Value p A1 n1 c1 a x W' (RA.out.below (Nat.le_refl _) hb) N1 p1 p2 (by omega) x0 x1)
      have PZ := Lib.hid (fun W' (hb : Below wr.heap.size wr W') => poly_Value p A2 n2 c2 z x W' (RZ.out.below (Nat.le_refl _) hb) N2 p1 p2 (by omega) x0 x1)
      have hA : 0 ≤ Lw.hornV p a x ∧ Lw.hornV p a x < p := by rw [Lw.horn_at x0 x1]; exact ⟨Int.emod_nonneg _ hp0, Int.emod_lt_of_pos _ (by omega)⟩
      have hZ : 0 ≤ Lw.hornV p z x ∧ Lw.hornV p z x < p := by rw [Lw.horn_at x0 x1]; exact ⟨Int.emod_nonneg _ hp0, Int.emod_lt_of_pos _ (by omega)⟩
      have iv := (IB.out (Lw.hornV p z x) (by omega) hZ.2).2
      have KQ : Hid ((y - Lw.hornV p a x) % p * Lw.invR (Lw.hornV p z x) p % p = Lw.gapK p a z (x, y)) := Lib.hid rfl
      have MD := Lib.hid (fun w => euclid_Mod (y - Lw.hornV p a x) p w (by omega) (by omega))
      have MX := Lib.hid (fun w => euclid_Mod (-x) p w (by omega) (by omega))
      have IV := Lib.hid (fun w => poly_inverse (Lw.hornV p z x) p w)
      have q0 := Int.emod_nonneg (y - Lw.hornV p a x) hp0
      have q1 := Int.emod_lt_of_pos (y - Lw.hornV p a x) (by omega : 0 < p)
      have w1' : IntKind.i64.wrap (y - Lw.hornV p a x) = y - Lw.hornV p a x := by rw [IntKind.wrap_i64]; omega
      generalize Lw.gapK p a z (x, y) = κ at *
      have PP := Lib.hid (fun W' (RA : Lw.Rd W' 1 A1 n1 (Lw.intsV .i64 a)) (RB : Lw.Rd W' 1 A2 n2 (Lw.intsV .i64 z)) => poly_Plus p A1 A2 n1 c1 n2 c2 a z κ 0 W' RA RB N1 N2 p1 p2 (by omega) (by omega) (by omega) (by omega) (by omega))
      have PT := Lib.hid (fun W' B d (RA : Lw.Rd W' 1 A2 n2 (Lw.intsV .i64 z)) (RB : Lw.Rd W' 1 B 2 (Lw.intsV .i64 [(-x) % p, 1])) => poly_Times p A2 B n2 c2 2 d z [(-x) % p, 1] W' RA RB N2 (by intro u hu; simp at hu; rcases hu with rfl | rfl; exact ⟨Int.emod_nonneg _ hp0, Int.emod_lt_of_pos _ (by omega)⟩; omega) p1 p2 (by omega) (by omega))
      generalize Lw.hornV p a x = ha at *
      generalize Lw.hornV p z x = hz at *
      generalize (y - ha) % p = qq at *
      generalize Lw.invR hz p = ii at *
      obtain ⟨m0, m1⟩ := Lw.mul_bd' qq ii 251 q0 (by omega) (by omega) (by omega)
      have e1 : IntKind.i64.wrap (qq * ii) = qq * ii := by rw [IntKind.wrap_i64]; omega
      have e2 : (qq * ii).tmod p = qq * ii % p := Int.tmod_eq_emod_of_nonneg m0
      have e3 : IntKind.i64.wrap (-x) = -x := by rw [IntKind.wrap_i64]; omega
      obtain ⟨W, hW⟩ : ∃ W, wr.alloc (.cells #[.int .i64 x, .int .i64 y] 66) = W := ⟨_, rfl⟩
      have B0 := show W.heap[wr.heap.size]? = some (.cells #[.int .i64 x, .int .i64 y] 66 (0, 0)) from hW ▸ Lw.blk_new _ _ _
      have l0 := Lw.blk_cell B0 0; have l1 := Lw.blk_cell B0 1
      simp at l0 l1
      have hBW : Below wr.heap.size wr W := by rw [← hW]; exact Lw.balloc (Below.refl _ _) _
      have hWs : wr.heap.size < W.heap.size := by rw [← hW]; simp
      have HW := Lib.hid hW
      have hlt' : (k : Int) < (n : Int) := by omega
      clear hW B0 hx g0 g1 hl had NA BD IB N1 N2 N3 N4 N8 hB0 gp iv q0 q1 hA hZ m0 m1 x0 x1 y0 y1
      go_wp2_with fail
      rw [HW.out]
      refine wp_region_held_drew (S := Lw.Sm W) (by kernel_rfl) (Lw.sm_drew W) (fun hHeld => ?_)
      (refine Lw.take1 (i := 0) (v := ?_) rfl (by kernel_rfl) (by kernel_rfl) (by kernel_rfl) (fun _ _ _ h => h) (Or.inl ⟨by rfl, ?_⟩) (by assumption) ?_; rotate_left 1; (focus (intro wS hSw; obtain ⟨hS1, hS2, hS3, hS4⟩ := hSw; go_simp <;> with_reducible rfl)); (try simp only [Act.put, List.setIfInBounds_toArray, List.set_cons_zero, List.set_cons_succ]))
      (refine Lw.take1 (i := 1) (v := ?_) rfl (by kernel_rfl) (by kernel_rfl) (by kernel_rfl) (fun _ _ _ h => h) (Or.inl ⟨by rfl, ?_⟩) (by assumption) ?_; rotate_left 1; (focus (intro wS hSw; obtain ⟨hS1, hS2, hS3, hS4⟩ := hSw; go_simp <;> with_reducible rfl)); (try simp only [Act.put, List.setIfInBounds_toArray, List.set_cons_zero, List.set_cons_succ]))
      (refine Lw.take1 (i := 2) (v := ?_) rfl (by kernel_rfl) (by kernel_rfl) (by kernel_rfl) (fun _ _ _ h => h) (Or.inl ⟨by rfl, ?_⟩) (by assumption) ?_; rotate_left 1; (focus (intro wS hSw; obtain ⟨hS1, hS2, hS3, hS4⟩ := hSw; go_simp <;> with_reducible rfl)); (try simp only [Act.put, List.setIfInBounds_toArray, List.set_cons_zero, List.set_cons_succ]))
      (refine Lw.take1 (i := 3) (v := ?_) rfl (by kernel_rfl) (by kernel_rfl) (by kernel_rfl) (fun _ _ _ h => h) (Or.inl ⟨by rfl, ?_⟩) (by assumption) ?_; rotate_left 1; (focus (intro wS hSw; obtain ⟨hS1, hS2, hS3, hS4⟩ := hSw; go_simp <;> with_reducible rfl)); (try simp only [Act.put, List.setIfInBounds_toArray, List.set_cons_zero, List.set_cons_succ]))
      (refine Lw.take1 (i := 4) (v := ?_) rfl (by kernel_rfl) (by kernel_rfl) (by kernel_rfl) (fun _ _ _ h => h) (Or.inl ⟨by rfl, ?_⟩) (by assumption) ?_; rotate_left 1; (focus (intro wS hSw; obtain ⟨hS1, hS2, hS3, hS4⟩ := hSw; go_simp <;> with_reducible rfl)); (try simp only [Act.put, List.setIfInBounds_toArray, List.set_cons_zero, List.set_cons_succ]))
      (refine Lw.take1 (i := 5) (v := ?_) rfl (by kernel_rfl) (by kernel_rfl) (by kernel_rfl) (fun _ _ _ h => h) (Or.inl ⟨by rfl, ?_⟩) (by assumption) ?_; rotate_left 1; (focus (intro wS hSw; obtain ⟨hS1, hS2, hS3, hS4⟩ := hSw; go_simp <;> with_reducible rfl)); (try simp only [Act.put, List.setIfInBounds_toArray, List.set_cons_zero, List.set_cons_succ]))
      (refine Lw.take1 (i := 8) (v := ?_) rfl (by kernel_rfl) (by kernel_rfl) (by kernel_rfl) (fun _ _ _ h => h) (Or.inl ⟨by rfl, ?_⟩) (by assumption) ?_; rotate_left 1; (focus (intro wS hSw; obtain ⟨hS1, hS2, hS3, hS4⟩ := hSw; go_simp <;> with_reducible rfl)); (try simp only [Act.put, List.setIfInBounds_toArray, List.set_cons_zero, List.set_cons_succ]))
      (refine wpAnyH_ready (rs := [6]) (by kernel_rfl) (by simp) ?_; refine Lw.cons1 (i := 6) rfl (fun K hK => ?_) AllReadyH.nil; go_simp; go_at_call 131; (with_reducible refine (PA.out _ (Below.drew hBW)).mono ?_); rintro e wx ⟨rfl, hbx⟩; refine hK.out _ _ ?_ (fun hHeld => ?_); (focus exact Lw.sm_keep (Lw.sm_drew W) hbx); clear hK K; (try simp only [Act.put, List.setIfInBounds_toArray, List.set_cons_zero, List.set_cons_succ]))
      have hS := Lw.sm_keep (Lw.sm_drew W) hbx
      (refine Lw.take1 (i := 7) (v := ?_) rfl (by kernel_rfl) (by kernel_rfl) (by kernel_rfl) (fun _ _ _ h => h) (Or.inl ⟨by rfl, ?_⟩) (by assumption) ?_; rotate_left 1; (focus (intro wS hSw; obtain ⟨hS1, hS2, hS3, hS4⟩ := hSw; go_simp <;> with_reducible rfl)); (try simp only [Act.put, List.setIfInBounds_toArray, List.set_cons_zero, List.set_cons_succ]))
      (refine wpAnyH_ready (rs := [9]) (by kernel_rfl) (by simp) ?_; refine Lw.cons1 (i := 9) rfl (fun K hK => ?_) AllReadyH.nil; go_simp; go_at_call 61; (with_reducible refine (MD.out _).mono ?_); rintro e w' ⟨rfl, rfl⟩; refine hK.out _ _ ?_ (fun hHeld => ?_); (focus exact hS); clear hK K; (try simp only [Act.put, List.setIfInBounds_toArray, List.set_cons_zero, List.set_cons_succ]))
      (refine Lw.take1 (i := 10) (v := ?_) rfl (by kernel_rfl) (by kernel_rfl) (by kernel_rfl) (fun _ _ _ h => h) (Or.inl ⟨by rfl, ?_⟩) (by assumption) ?_; rotate_left 1; (focus (intro wS hSw; obtain ⟨hS1, hS2, hS3, hS4⟩ := hSw; go_simp <;> with_reducible rfl)); (try simp only [Act.put, List.setIfInBounds_toArray, List.set_cons_zero, List.set_cons_succ]))
      refine wpAnyH_done (by kernel_rfl) ?_ _
      have k0 := (hS.1 ⟨wr.heap.size, 0, none⟩ hWs).trans l0
      have k1 := (hS.1 ⟨wr.heap.size, 1, none⟩ hWs).trans l1
      have hBx := Below.trans hBW ((Lw.sm_bel hS).mono hBW.size)
      have sx := hBx.size
      clear PA MD
      go_wp2_with fail
      refine (PZ.out _ hBx).mono ?_
      rintro e w2 ⟨rfl, hb2⟩
      go_wp2_with fail
      refine (IV.out _).mono ?_
      rintro e w3 ⟨rfl, hb3⟩
      have hb23 := Lw.bt hb2 hb3
      have hB3 := Lw.bt hBx hb23
      have PP3 := PP.out _ (RA.out.below (Nat.le_refl _) hB3) (RZ.out.below (Nat.le_refl _) hB3)
      rw [show (((0 : Nat) : Int)) = 0 from rfl] at PP3
      replace PP3 := Lib.hid PP3
      go_wp2_with fail
      rw [KQ.out]
      refine PP3.out.mono ?_
      rintro e w4 ⟨A4, n4, c4, rfl, R4, _, hb4⟩
      have hb24 := Lw.bt hb23 hb4
      have hB4 := Lw.bt hBx hb24
      have k2 : w4.cell? ⟨wr.heap.size, 0, none⟩ = some (.int .i64 x) := (hb24.cell (p := ⟨wr.heap.size, 0, none⟩) (by have h1 := hS.2.2.1; show wr.heap.size < _; omega)).trans k0
      have R4 := Lib.hid R4
      clear PP PP3
      go_wp2_with (go_at_call 61; (with_reducible refine (MX.out _).mono ?_); rintro e w5 ⟨rfl, rfl⟩)
      refine (PT.out _ _ _ (RZ.out.below (Nat.le_refl _) (Lw.balloc hB4 _)) (by exact Lw.Rd.lit (Lw.blk_new' (by simp) _ _) rfl rfl)).mono ?_
      rintro e w6 ⟨A6, n6, c6, rfl, R6, _, hb6⟩
      have R46 := Lib.hid (R4.out.below (Nat.le_refl _) (Lw.bt (Lw.balloc (Below.refl _ _) _) hb6))
      have R6 := Lib.hid R6
      have hB6 := Lw.bt (Lw.balloc hB4 _) hb6
      go_wp2_with fail
      go_roundw
      case rel => exact ⟨k + 1, A4, n4, c4, A6, n6, c6, by go_num, by omega, rfl, rfl, by rw [NX.out]; exact R46, by rw [NX.out]; exact R6, Lw.bt hB hB6⟩
      case measure => simp [intOf]; omega
    · have hkn : k = n := by omega
      subst hkn
      rw [← LL.out] at RA
      go_wp2_with fail
      go_ret2
      exact ⟨A1, n1, c1, rfl, RA.out, hB⟩
end Go.Proofs.Ytlgegdmnbhoepaa

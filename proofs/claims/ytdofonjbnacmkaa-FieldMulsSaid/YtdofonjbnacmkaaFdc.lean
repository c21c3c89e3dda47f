/- field.Add, the reference's FieldAdd. -/
import Derived.Test.YtdofonjbnacmkaaFdb
namespace Lw
open Go Go.RowKit
theorem elB_two {S a b : Int} : elB S [a, b] = true ↔ (0 ≤ a ∧ a < S) ∧ 0 ≤ b ∧ b < S := by simp [elB]
theorem elB_one {S a : Int} : elB S [a] = true ↔ 0 ≤ a ∧ a < S := by simp [elB]
end Lw
set_option linter.unusedVariables false
set_option linter.unusedSimpArgs false
namespace Go.Proofs.Ytdofonjbnacmkaa
open Go.RowKit
theorem field_Add_bad (p : Int) (A : Option Addr) (n c : Nat) (f : List Int) (a b : Int) (w : World) (RA : Lw.Rd w 1 A n (Lw.intsV .i64 f)) (h : ¬ Lw.fldE p f = 0) :
    Calls Try.prog 36 #[.int .i64 p, .slice A n c, .int .i64 a, .int .i64 b] w fun e w' => e = .returned (.tuple #[.int .i64 0, .int .i64 (Lw.fldE p f)]) ∧ Below w.heap.size w w' := by
  have X := Lib.hid (fun B m d W (hb : Below w.heap.size w W) => field_elements_bad p A n c f B m d W (RA.below (Nat.le_refl w.heap.size) hb) h)
  have z : (Lw.fldE p f != 0) = true := by simpa using h
  have z' : (Lw.fldE p f == 0) = false := by simpa using h
  generalize Lw.fldE p f = E at *
  clear RA h
  go_enter Try.func36, Try.ntmps36
  go_wp2_with fail
  refine (X.out _ _ _ _ (Lw.balloc (Below.refl _ _) _)).mono ?_
  rintro e w1 ⟨rfl, hb1⟩
  go_wp2_with fail
  go_ret2
  exact ⟨rfl, Lw.balloc (Lw.bt (Lw.balloc (Below.refl _ _) _) hb1) _⟩
theorem field_Add_out (p : Int) (A : Option Addr) (n c : Nat) (f : List Int) (a b : Int) (w : World) (RA : Lw.Rd w 1 A n (Lw.intsV .i64 f)) (h : Lw.fldE p f = 0) (h2 : ¬ Lw.elB (p ^ (n - 1)) [a, b] = true) :
    Calls Try.prog 36 #[.int .i64 p, .slice A n c, .int .i64 a, .int .i64 b] w fun e w' => e = .returned (.tuple #[.int .i64 0, .int .i64 2]) ∧ Below w.heap.size w w' := by
  have X := fun W (hb : Below w.heap.size w W) (RB : Lw.Rd W 1 (some ⟨w.heap.size, 0, none⟩) 2 (Lw.intsV .i64 [a, b])) => field_elements_ok p A n c f (some ⟨w.heap.size, 0, none⟩) 2 2 [a, b] W (RA.below (Nat.le_refl w.heap.size) hb) RB h (by omega)
  rw [if_neg h2] at X
  replace X := Lib.hid X
  generalize p ^ (n - 1) = S at *
  clear RA h h2
  go_enter Try.func36, Try.ntmps36
  go_wp2_with fail
  refine (X.out _ (Lw.balloc (Below.refl _ _) _) (by exact Lw.Rd.lit (Lw.blk_new' (by simp) _ _) rfl rfl)).mono ?_
  rintro e w1 ⟨rfl, hb1⟩
  go_wp2_with fail
  go_ret2
  exact ⟨rfl, Lw.balloc (Lw.bt (Lw.balloc (Below.refl _ _) _) hb1) _⟩
set_option maxHeartbeats 4000000 in
theorem field_Add_ok (p : Int) (A : Option Addr) (n c : Nat) (f : List Int) (a b : Int) (w : World) (RA : Lw.Rd w 1 A n (Lw.intsV .i64 f)) (h : Lw.fldE p f = 0) (h2 : Lw.elB (p ^ (n - 1)) [a, b] = true) :
    Calls Try.prog 36 #[.int .i64 p, .slice A n c, .int .i64 a, .int .i64 b] w fun e w' => e = .returned (.tuple #[.int .i64 (Lw.numL p (Lw.plusL p (Lw.digs p a) (Lw.digs p b) 1 0)), .int .i64 0]) ∧ Below w.heap.size w w' := by
  have X := fun W (hb : Below w.heap.size w W) (RB : Lw.Rd W 1 (some ⟨w.heap.size, 0, none⟩) 2 (Lw.intsV .i64 [a, b])) => field_elements_ok p A n c f (some ⟨w.heap.size, 0, none⟩) 2 2 [a, b] W (RA.below (Nat.le_refl w.heap.size) hb) RB h (by omega)
  rw [if_pos h2] at X
  replace X := Lib.hid X
  have la : f.length = n := by have := RA.1; simpa [Lw.intsV] using this
  obtain ⟨g1, g2, g3, g4, g5⟩ := Lw.of_fld h
  obtain ⟨p1, p2, pp, l1, b1, z1⟩ := Lw.poly_facts g1
  rw [la] at g4
  obtain ⟨⟨a0, a1⟩, b0, bb1⟩ := Lw.elB_two.1 h2
  have PN := Lw.plus_num p1 a0 a1 b0 bb1 g4
  have PB : ∀ x ∈ Lw.plusL p (Lw.digs p a) (Lw.digs p b) 1 0, 0 ≤ x ∧ x < p := Lw.plusL_bd (by omega)
  have PLL : (Lw.plusL p (Lw.digs p a) (Lw.digs p b) 1 0).length ≤ 14 := by
    have h1 := Lw.plusL_len (p := p) (a := Lw.digs p a) (b := Lw.digs p b) (κ := 1) (u := 0)
    have h2 := Lw.digs_len (p := p) (a := a)
    have h3 := Lw.digs_len (p := p) (a := b)
    omega
  obtain ⟨S, hS⟩ : ∃ z, p ^ (n - 1) = z := ⟨_, rfl⟩
  rw [hS] at X g4 a1 bb1
  have PA := Lib.hid (fun W => field_poly p S a A n c W p1 p2 a0 (by omega))
  have PBB := Lib.hid (fun W => field_poly p S b A n c W p1 p2 b0 (by omega))
  have PL := fun C m g C' m' g' W (R1 : Lw.Rd W 1 C m (Lw.intsV .i64 (Lw.digs p a))) (R2 : Lw.Rd W 1 C' m' (Lw.intsV .i64 (Lw.digs p b))) => poly_Plus p C C' m g m' g' (Lw.digs p a) (Lw.digs p b) 1 0 W R1 R2 (Lw.digs_bd (by omega) a) (Lw.digs_bd (by omega) b) p1 p2 (by decide) (by decide) (by have h1 := R1.1; have h2 := Lw.digs_len (p := p) (a := a); simp [Lw.intsV] at h1; omega) (by have h1 := R2.1; have h2 := Lw.digs_len (p := p) (a := b); simp [Lw.intsV] at h1; omega) (by decide)
  simp only [Int.natCast_zero] at PL
  replace PL := Lib.hid PL
  have NU := Lib.hid (fun C m g W (R : Lw.Rd W 1 C m (Lw.intsV .i64 (Lw.plusL p (Lw.digs p a) (Lw.digs p b) 1 0))) => field_number p S A n c C m g _ W R p1 p2 PB PN (by have h1 := R.1; simp [Lw.intsV] at h1; omega))
  generalize Lw.plusL p (Lw.digs p a) (Lw.digs p b) 1 0 = PP at *
  generalize Lw.digs p a = DA at *
  generalize Lw.digs p b = DB at *
  clear RA h h2 la g1 g2 g3 g4 g5 pp b1 z1 PN PB PLL hS
  go_enter Try.func36, Try.ntmps36
  go_wp2_with fail
  refine (X.out _ (Lw.balloc (Below.refl _ _) _) (by exact Lw.Rd.lit (Lw.blk_new' (by simp) _ _) rfl rfl)).mono ?_
  rintro e w1 ⟨rfl, hb1⟩
  have hBw1 := Lw.bt (Lw.balloc (Below.refl _ _) _) hb1
  obtain ⟨W, hW⟩ : ∃ W, w1.alloc (.cells #[.int .i64 p, .int .i64 S, .slice A n c] 64) = W := ⟨_, rfl⟩
  have B0 := Lib.hid (show W.heap[w1.heap.size]? = some (.cells #[.int .i64 p, .int .i64 S, .slice A n c] 64 (0, 0)) from hW ▸ Lw.blk_new _ _ _)
  have hBW : Below w.heap.size w W := by rw [← hW]; exact Lw.balloc hBw1 _
  have hWs : w1.heap.size < W.heap.size := by rw [← hW]; simp
  have l0 := Lw.blk_cell B0.out 0; have l1 := Lw.blk_cell B0.out 1; have l2 := Lw.blk_cell B0.out 2
  simp at l0 l1 l2
  have HW := Lib.hid hW
  clear hW
  go_wp2_with fail
  rw [HW.out]
  refine wp_region_held_drew (S := Lw.Sm W) (by kernel_rfl) (Lw.sm_drew W) (fun hHeld => ?_)
  (refine Lw.take1 (i := 0) (v := ?_) rfl (by kernel_rfl) (by kernel_rfl) (by kernel_rfl) (fun _ _ _ h => h) (Or.inl ⟨by rfl, ?_⟩) (by assumption) ?_; rotate_left 1; (focus (intro wS hSw; obtain ⟨hS1, hS2, hS3, hS4⟩ := hSw; go_simp <;> with_reducible rfl)); (try simp only [Act.put, List.setIfInBounds_toArray, List.set_cons_zero, List.set_cons_succ]))
  (refine Lw.take1 (i := 1) (v := ?_) rfl (by kernel_rfl) (by kernel_rfl) (by kernel_rfl) (fun _ _ _ h => h) (Or.inl ⟨by rfl, ?_⟩) (by assumption) ?_; rotate_left 1; (focus (intro wS hSw; obtain ⟨hS1, hS2, hS3, hS4⟩ := hSw; go_simp <;> with_reducible rfl)); (try simp only [Act.put, List.setIfInBounds_toArray, List.set_cons_zero, List.set_cons_succ]))
  (refine Lw.take1 (i := 2) (v := ?_) rfl (by kernel_rfl) (by kernel_rfl) (by kernel_rfl) (fun _ _ _ h => h) (Or.inl ⟨by rfl, ?_⟩) (by assumption) ?_; rotate_left 1; (focus (intro wS hSw; obtain ⟨hS1, hS2, hS3, hS4⟩ := hSw; go_simp <;> with_reducible rfl)); (try simp only [Act.put, List.setIfInBounds_toArray, List.set_cons_zero, List.set_cons_succ]))
  (refine Lw.take1 (i := 3) (v := ?_) rfl (by kernel_rfl) (by kernel_rfl) (by kernel_rfl) (fun _ _ _ h => h) (Or.inl ⟨by rfl, ?_⟩) (by assumption) ?_; rotate_left 1; (focus (intro wS hSw; obtain ⟨hS1, hS2, hS3, hS4⟩ := hSw; go_simp <;> with_reducible rfl)); (try simp only [Act.put, List.setIfInBounds_toArray, List.set_cons_zero, List.set_cons_succ]))
  (refine Lw.take1 (i := 5) (v := ?_) rfl (by kernel_rfl) (by kernel_rfl) (by kernel_rfl) (fun _ _ _ h => h) (Or.inl ⟨by rfl, ?_⟩) (by assumption) ?_; rotate_left 1; (focus (intro wS hSw; obtain ⟨hS1, hS2, hS3, hS4⟩ := hSw; go_simp <;> with_reducible rfl)); (try simp only [Act.put, List.setIfInBounds_toArray, List.set_cons_zero, List.set_cons_succ]))
  (refine Lw.take1 (i := 6) (v := ?_) rfl (by kernel_rfl) (by kernel_rfl) (by kernel_rfl) (fun _ _ _ h => h) (Or.inl ⟨by rfl, ?_⟩) (by assumption) ?_; rotate_left 1; (focus (intro wS hSw; obtain ⟨hS1, hS2, hS3, hS4⟩ := hSw; go_simp <;> with_reducible rfl)); (try simp only [Act.put, List.setIfInBounds_toArray, List.set_cons_zero, List.set_cons_succ]))
  (refine wpAnyH_ready (rs := [4]) (by kernel_rfl) (by simp) ?_; refine Lw.cons1 (i := 4) rfl (fun K hK => ?_) AllReadyH.nil; go_simp; go_at_call 68; (with_reducible refine (PA.out _).mono ?_); rintro e w2 ⟨C, m, g, rfl, R1, hg, hb2⟩; refine hK.out _ _ ?_ (fun hHeld => ?_); (focus exact Lw.sm_keep (Lw.sm_drew W) hb2); clear hK K; (try simp only [Act.put, List.setIfInBounds_toArray, List.set_cons_zero, List.set_cons_succ]))
  have hS2 := Lw.sm_keep (Lw.sm_drew W) hb2
  have R1 := Lib.hid R1
  (refine wpAnyH_ready (rs := [7]) (by kernel_rfl) (by simp) ?_; refine Lw.cons1 (i := 7) rfl (fun K hK => ?_) AllReadyH.nil; go_simp; go_at_call 68; (with_reducible refine (PBB.out _).mono ?_); rintro e w3 ⟨C', m', g', rfl, R2, hg', hb3⟩; refine hK.out _ _ ?_ (fun hHeld => ?_); (focus exact Lw.sm_keep hS2 hb3); clear hK K; (try simp only [Act.put, List.setIfInBounds_toArray, List.set_cons_zero, List.set_cons_succ]))
  have hS3 := Lw.sm_keep hS2 hb3
  have R2 := Lib.hid R2
  (refine wpAnyH_ready (rs := [8]) (by kernel_rfl) (by simp) ?_; refine Lw.cons1 (i := 8) rfl (fun K hK => ?_) AllReadyH.nil; go_simp; go_at_call 53; (with_reducible refine (PL.out _ _ _ _ _ _ _ (R1.out.below (Nat.le_refl _) hb3) R2.out).mono ?_); rintro e w4 ⟨C2, m2, g2, rfl, R3, hg2, hb4⟩; refine hK.out _ _ ?_ (fun hHeld => ?_); (focus exact Lw.sm_keep hS3 hb4); clear hK K; (try simp only [Act.put, List.setIfInBounds_toArray, List.set_cons_zero, List.set_cons_succ]))
  have hS4 := Lw.sm_keep hS3 hb4
  have R3 := Lib.hid R3
  (refine wpAnyH_ready (rs := [9]) (by kernel_rfl) (by simp) ?_; refine Lw.cons1 (i := 9) rfl (fun K hK => ?_) AllReadyH.nil; go_simp; go_at_call 67; (with_reducible refine (NU.out _ _ _ _ R3.out).mono ?_); rintro e w5 ⟨rfl, hb5⟩; refine hK.out _ _ ?_ (fun hHeld => ?_); (focus exact Lw.sm_keep hS4 hb5); clear hK K; (try simp only [Act.put, List.setIfInBounds_toArray, List.set_cons_zero, List.set_cons_succ]))
  have hS5 := Lw.sm_keep hS4 hb5
  (refine Lw.take1 (i := 10) (v := ?_) rfl (by kernel_rfl) (by kernel_rfl) (by kernel_rfl) (fun _ _ _ h => h) (Or.inl ⟨by rfl, ?_⟩) (by assumption) ?_; rotate_left 1; (focus (intro wS hSw; obtain ⟨hS1, hS2, hS3, hS4⟩ := hSw; go_simp <;> with_reducible rfl)); (try simp only [Act.put, List.setIfInBounds_toArray, List.set_cons_zero, List.set_cons_succ]))
  (refine Lw.take1 (i := 11) (v := ?_) rfl (by kernel_rfl) (by kernel_rfl) (by kernel_rfl) (fun _ _ _ h => h) (Or.inl ⟨by rfl, ?_⟩) (by assumption) ?_; rotate_left 1; (focus (intro wS hSw; obtain ⟨hS1, hS2, hS3, hS4⟩ := hSw; go_simp <;> with_reducible rfl)); (try simp only [Act.put, List.setIfInBounds_toArray, List.set_cons_zero, List.set_cons_succ]))
  refine wpAnyH_done (by kernel_rfl) ?_ _
  go_wp2
  go_ret2
  exact ⟨rfl, Lw.bt hBW hS5.2.2.2⟩
set_option maxHeartbeats 1000000 in
theorem ref_FieldAdd (p a b : Int) (d : Nat) (w : World) (p1 : 2 ≤ p) (p2 : p ≤ 251) (a0 : 0 ≤ a) (a1 : a < p ^ d) (b0 : 0 ≤ b) (bb1 : b < p ^ d) (hd : p ^ d ≤ 4096) :
    Calls Try.prog 38 #[.int .i64 p, .int .i64 a, .int .i64 b] w fun e w' => e = .returned (.int .i64 (Lw.numL p (Lw.plusL p (Lw.digs p a) (Lw.digs p b) 1 0))) ∧ Below w.heap.size w w' := by
  have PN := Lw.plus_num p1 a0 a1 b0 bb1 hd
  have PB : ∀ x ∈ Lw.plusL p (Lw.digs p a) (Lw.digs p b) 1 0, 0 ≤ x ∧ x < p := Lw.plusL_bd (by omega)
  have PLL : (Lw.plusL p (Lw.digs p a) (Lw.digs p b) 1 0).length ≤ 14 := by
    have h1 := Lw.plusL_len (p := p) (a := Lw.digs p a) (b := Lw.digs p b) (κ := 1) (u := 0)
    have h2 := Lw.digs_len (p := p) (a := a)
    have h3 := Lw.digs_len (p := p) (a := b)
    omega
  have DA := Lib.hid (fun W => ref_digits p a W p1 p2 a0 (by omega))
  have DB := Lib.hid (fun W => ref_digits p b W p1 p2 b0 (by omega))
  have AD := Lib.hid (fun C m g C' m' g' W (R1 : Lw.Rd W 1 C m (Lw.intsV .i64 (Lw.digs p a))) (R2 : Lw.Rd W 1 C' m' (Lw.intsV .i64 (Lw.digs p b))) => ref_Add p C C' m g m' g' (Lw.digs p a) (Lw.digs p b) W R1 R2 (Lw.digs_bd (by omega) a) (Lw.digs_bd (by omega) b) p1 p2 (by have h1 := R1.1; have h2 := Lw.digs_len (p := p) (a := a); simp [Lw.intsV] at h1; omega) (by have h1 := R2.1; have h2 := Lw.digs_len (p := p) (a := b); simp [Lw.intsV] at h1; omega))
  have NU := Lib.hid (fun C m g W (R : Lw.Rd W 1 C m (Lw.intsV .i64 (Lw.plusL p (Lw.digs p a) (Lw.digs p b) 1 0))) => ref_number p C m g _ W R p1 p2 PB PN (by have h1 := R.1; simp [Lw.intsV] at h1; omega))
  generalize Lw.plusL p (Lw.digs p a) (Lw.digs p b) 1 0 = PP at *
  generalize Lw.digs p a = L1 at *
  generalize Lw.digs p b = L2 at *
  clear PN PB PLL a1 bb1 hd
  go_enter Try.func38, Try.ntmps38
  go_wp2_with fail
  refine (DA.out _).mono ?_
  rintro e w2 ⟨C, m, g, rfl, R1, hg, hb2⟩
  have R1 := Lib.hid R1
  go_wp2_with fail
  refine (DB.out _).mono ?_
  rintro e w3 ⟨C', m', g', rfl, R2, hg', hb3⟩
  have R2 := Lib.hid R2
  go_wp2_with fail
  refine (AD.out _ _ _ _ _ _ _ (R1.out.below (Nat.le_refl _) hb3) R2.out).mono ?_
  rintro e w4 ⟨C2, m2, g2, rfl, R3, hg2, hb4⟩
  have R3 := Lib.hid R3
  go_wp2_with fail
  refine (NU.out _ _ _ _ R3.out).mono ?_
  rintro e w5 ⟨rfl, rfl⟩
  go_wp2_with fail
  go_ret
  exact ⟨rfl, Lw.bt (Lw.bt hb2 hb3) hb4⟩
end Go.Proofs.Ytdofonjbnacmkaa

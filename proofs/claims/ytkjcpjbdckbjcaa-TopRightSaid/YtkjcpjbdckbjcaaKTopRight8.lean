/- Contracts of shake.Answer and shake.Finish, and of the reference's Shake. -/
import Derived.Test.YtkjcpjbdckbjcaaKTopRight7
import Derived.StillTailTactics
namespace Lw
theorem cell_far3 {W : Go.World} {b c : Nat} {i : Nat} {x y z u : Go.Value} (hne : b ≠ c) (h : W.cell? ⟨c, i, none⟩ = some u) : (((W.setCell ⟨b, 0, none⟩ x).setCell ⟨b, 1, none⟩ y).setCell ⟨b, 2, none⟩ z).cell? ⟨c, i, none⟩ = some u := by
  rw [Go.World.cell?_setCell_other _ _ _ _ (by intro e; injection e with e; exact hne e), Go.World.cell?_setCell_other _ _ _ _ (by intro e; injection e with e; exact hne e), Go.World.cell?_setCell_other _ _ _ _ (by intro e; injection e with e; exact hne e)]
  exact h
theorem ask_pm {P Q G H : Int} (hg : groupE P Q G H = 0) (a x : Int) : askE P Q G H [a] [x] = if 0 ≤ a ∧ a < Q then (if memB P Q x = true then 0 else 4) else 2 := by
  by_cases h1 : 0 ≤ a ∧ a < Q
  · rw [if_pos h1]
    have p : psB Q [a] = true := by unfold psB; simp [h1]
    by_cases h2 : memB P Q x = true
    · rw [if_pos h2]; exact askE_zero hg p (by unfold msB; simp [h2])
    · rw [if_neg h2]; exact askE_four hg p (by unfold msB; simpa using h2)
  · rw [if_neg h1]; exact askE_two _ hg (by unfold psB; simp; omega)
theorem ask_2p {P Q G H : Int} (hg : groupE P Q G H = 0) (a k x : Int) : askE P Q G H [a, k] [x] = if 0 ≤ a ∧ a < Q then (if 0 ≤ k ∧ k < Q then (if memB P Q x = true then 0 else 4) else 2) else 2 := by
  by_cases h1 : 0 ≤ a ∧ a < Q
  · rw [if_pos h1]
    by_cases h3 : 0 ≤ k ∧ k < Q
    · rw [if_pos h3]
      have p : psB Q [a, k] = true := by unfold psB; simp [h1, h3]
      by_cases h2 : memB P Q x = true
      · rw [if_pos h2]; exact askE_zero hg p (by unfold msB; simp [h2])
      · rw [if_neg h2]; exact askE_four hg p (by unfold msB; simpa using h2)
    · rw [if_neg h3]; exact askE_two _ hg (by unfold psB; simp; omega)
  · rw [if_neg h1]; exact askE_two _ hg (by unfold psB; simp; omega)
theorem ask_2m {P Q G H : Int} (hg : groupE P Q G H = 0) (a x y : Int) : askE P Q G H [a] [x, y] = if 0 ≤ a ∧ a < Q then (if memB P Q x = true then (if memB P Q y = true then 0 else 4) else 4) else 2 := by
  by_cases h1 : 0 ≤ a ∧ a < Q
  · rw [if_pos h1]
    have p : psB Q [a] = true := by unfold psB; simp [h1]
    by_cases h2 : memB P Q x = true
    · rw [if_pos h2]
      by_cases h3 : memB P Q y = true
      · rw [if_pos h3]; exact askE_zero hg p (by unfold msB; simp [h2, h3])
      · rw [if_neg h3]; exact askE_four hg p (by unfold msB; simp [h2]; simpa using h3)
    · rw [if_neg h2]; exact askE_four hg p (by unfold msB; simp; intro h; exact absurd h h2)
  · rw [if_neg h1]; exact askE_two _ hg (by unfold psB; simp; omega)
theorem memG {P Q G H : Int} (hg : groupE P Q G H = 0) : memB P Q G = true := by
  obtain ⟨h1, h2, h3, h4, h5, h6, h7, h8, hP, hQ, hG, hH⟩ := grp_facts hg
  exact memB_in ⟨by omega, h6⟩ ▸ (by rw [hG]; rfl)
theorem ans_zero {P Q G H a k x : Int} (h : askE P Q G H [a, k] [x] = 0) : askE P Q G H [a] [G] = 0 ∧ askE P Q G H [k] [G] = 0 ∧ askE P Q G H [a] [x] = 0 ∧ askE P Q G H [k] [x] = 0 := by
  have hg := (askE_ok h).1
  have hG := memG hg
  rw [ask_2p hg] at h
  rw [ask_pm hg, ask_pm hg, ask_pm hg, ask_pm hg, hG]
  split at h
  · rename_i h1
    split at h
    · rename_i h2
      split at h
      · rename_i h3; simp [h1, h2, h3]
      · omega
    · omega
  · omega
theorem ans_bad {P Q G H a k x E : Int} (h : askE P Q G H [a, k] [x] = E) (hn : ¬ E = 0) : askE P Q G H [a] [G] = E ∨ (askE P Q G H [a] [G] = 0 ∧ askE P Q G H [k] [G] = E) ∨ (askE P Q G H [a] [G] = 0 ∧ askE P Q G H [k] [G] = 0 ∧ askE P Q G H [a] [x] = E) := by
  by_cases hg : groupE P Q G H = 0
  · have hG := memG hg
    rw [ask_2p hg] at h
    rw [ask_pm hg, ask_pm hg, ask_pm hg, hG]
    by_cases h1 : 0 ≤ a ∧ a < Q
    · by_cases h2 : 0 ≤ k ∧ k < Q
      · by_cases h3 : memB P Q x = true
        · simp [h1, h2, h3] at h; omega
        · right; right; simp [h1, h2, h3] at h ⊢; exact h
      · right; left; rw [if_pos h1, if_neg h2] at h; rw [if_pos h1, if_neg h2]; exact ⟨by simp, h⟩
    · left; rw [if_neg h1] at h; rw [if_neg h1]; exact h
  · left; rw [askE_group _ _ hg] at h; rw [askE_group _ _ hg]; exact h
theorem fin_zero {P Q G H k x y : Int} (h : askE P Q G H [k] [x, y] = 0) : askE P Q G H [k] [G] = 0 ∧ askE P Q G H [k] [x] = 0 ∧ askE P Q G H [k] [y] = 0 := by
  have hg := (askE_ok h).1
  have hG := memG hg
  rw [ask_2m hg] at h
  rw [ask_pm hg, ask_pm hg, ask_pm hg, hG]
  split at h
  · rename_i h1
    split at h
    · rename_i h2
      split at h
      · rename_i h3; simp [h1, h2, h3]
      · omega
    · omega
  · omega
theorem fin_bad {P Q G H k x y E : Int} (h : askE P Q G H [k] [x, y] = E) (hn : ¬ E = 0) : askE P Q G H [k] [G] = E ∨ (askE P Q G H [k] [G] = 0 ∧ askE P Q G H [k] [x] = E) ∨ (askE P Q G H [k] [G] = 0 ∧ askE P Q G H [k] [x] = 0 ∧ askE P Q G H [k] [y] = E) := by
  by_cases hg : groupE P Q G H = 0
  · have hG := memG hg
    rw [ask_2m hg] at h
    rw [ask_pm hg, ask_pm hg, ask_pm hg, hG]
    by_cases h1 : 0 ≤ k ∧ k < Q
    · by_cases h2 : memB P Q x = true
      · by_cases h3 : memB P Q y = true
        · simp [h1, h2, h3] at h; omega
        · right; right; simp [h1, h2, h3] at h ⊢; exact h
      · right; left; rw [if_pos h1, if_neg h2] at h; rw [if_pos h1, if_pos h1, if_neg h2]; exact ⟨by simp, h⟩
    · left; rw [if_neg h1] at h; rw [if_neg h1]; exact h
  · left; rw [askE_group _ _ hg] at h; rw [askE_group _ _ hg]; exact h
end Lw
set_option linter.unusedVariables false
set_option linter.unusedSimpArgs false
namespace Go.Proofs.Ytkjcpjbdckbjcaa
open Go.RowKit
set_option maxHeartbeats 4000000 in
theorem shake_Answer_ok (P Q G H a k x : Int) (w : World) (hE : Lw.askE P Q G H [a, k] [x] = 0) :
    Calls Try.prog 31 #[.agg #[.int .i64 P, .int .i64 Q, .int .i64 G, .int .i64 H], .int .i64 a, .int .i64 k, .int .i64 x] w fun e w' => e = .returned (.tuple #[.agg #[.int .i64 (Lw.pw G k P), .int .i64 (Lw.hsum (2 :: Lw.textL [x, Lw.pw G k P, Lw.pw G a P, Lw.pw x a P, Lw.pw x k P])), .int .i64 (Lw.hsum (1 :: Lw.textL [x, Lw.pw G k P, Lw.pw G a P, Lw.pw x a P, Lw.pw x k P]))], .int .i64 0]) ∧ Below w.heap.size w w' := by
  obtain ⟨E1, E2, E3, E4⟩ := Lw.ans_zero hE
  obtain ⟨hg, _, hm⟩ := Lw.askE_ok hE
  obtain ⟨h1, h2, h3, h4, _⟩ := Lw.grp_facts hg
  obtain ⟨mx, _⟩ := Lw.msB_cons (ms := []) hm
  obtain ⟨x1, x2, _⟩ := Lw.memB_bd mx
  obtain ⟨a1, a2⟩ := Lw.pw_bd G a P (by omega)
  obtain ⟨k1, k2⟩ := Lw.pw_bd G k P (by omega)
  obtain ⟨u1, u2⟩ := Lw.pw_bd x a P (by omega)
  obtain ⟨v1, v2⟩ := Lw.pw_bd x k P (by omega)
  have S1 := Lib.hid (fun (b : Nat) (w : World) hb => shake_shared_ok P Q G H a G b w hb E1)
  have S2 := Lib.hid (fun (b : Nat) (w : World) hb => shake_shared_ok P Q G H k G b w hb E2)
  have S3 := Lib.hid (fun (b : Nat) (w : World) hb => shake_shared_ok P Q G H a x b w hb E3)
  have S4 := Lib.hid (fun (b : Nat) (w : World) hb => shake_shared_ok P Q G H k x b w hb E4)
  clear hE E1 E2 E3 E4 hg hm mx
  generalize Lw.pw G a P = s at *
  generalize Lw.pw G k P = f at *
  generalize Lw.pw x a P = u at *
  generalize Lw.pw x k P = v at *
  have TX := Lib.hid (fun (A : Option Addr) (c : Nat) (w : World) R => shake_text_five A c [x, f, s, u, v] w R (by intro z hz; simp at hz; omega))
  have SU := Lib.hid (fun (A : Option Addr) (c : Nat) (w : World) R => shake_sums A 20 c (Lw.textL [x, f, s, u, v]) w R (Lw.textL_byt _) (by omega))
  obtain ⟨t1, ht1⟩ : ∃ t, Lw.hsum (1 :: Lw.textL [x, f, s, u, v]) = t := ⟨_, rfl⟩
  obtain ⟨t2, ht2⟩ : ∃ t, Lw.hsum (2 :: Lw.textL [x, f, s, u, v]) = t := ⟨_, rfl⟩
  rw [ht1, ht2] at SU ⊢
  clear ht1 ht2
  go_enter Try.func31, Try.ntmps31
  go_wp2_with (go_at_call 48; (with_reducible refine (S1.out _ _ (Lw.blk_new' (by simp) _ _)).mono ?_); rintro e w1 ⟨rfl, hb1⟩)
  have B0 := Lib.hid ((hb1.block w.heap.size (by simp; omega)).trans (Lw.blk_alloc (Lw.blk_alloc (Lw.blk_new _ _ _) _) _))
  have B1 := Lib.hid ((hb1.block (w.heap.size + 1) (by simp)).trans (Lw.blk_alloc (Lw.blk_new' (by simp) _ _) _))
  have B2 := Lib.hid ((hb1.block (w.heap.size + 1 + 1) (by simp)).trans (Lw.blk_new' (by simp) _ _))
  have m0 := Lw.blk_cell B0.out 0; have m1 := Lw.blk_cell B0.out 1; have m2 := Lw.blk_cell B0.out 2; have m3 := Lw.blk_cell B0.out 3
  simp at m0 m1 m2 m3
  have hz1 := hb1.size
  simp at hz1
  have g0 : w.heap.size < w1.heap.size := by omega
  have g1 : w.heap.size + 1 < w1.heap.size := by omega
  have g2 : w.heap.size + 1 + 1 < w1.heap.size := by omega
  have hB1 : Below w.heap.size w w1 := by (repeat (first | exact Below.refl _ _ | refine Lw.bt ?_ (by assumption) | refine Lw.balloc ?_ _ | refine Lw.bdrewN ?_ _ | refine Below.drew ?_ | refine Lw.bset ?_ (by first | (simp; done) | (simp; omega) | omega) _))
  clear hb1
  have hS1 := Lw.sm_drew w1
  refine wp_region_held_drew (S := Lw.Sm w1) (by kernel_rfl) hS1 (fun hHeld => ?_)
  (refine Lw.take1 (i := 0) (v := ?_) rfl (by kernel_rfl) (by kernel_rfl) (by kernel_rfl) (fun _ _ _ h => h) (Or.inl ⟨by rfl, ?_⟩) (by assumption) ?_; rotate_left 1; (focus (intro wS hSw; obtain ⟨hS1, hS2, hS3, hS4⟩ := hSw; go_simp <;> with_reducible rfl)); (try simp only [Act.put, List.setIfInBounds_toArray, List.set_cons_zero, List.set_cons_succ]))
  (refine Lw.take1 (i := 1) (v := ?_) rfl (by kernel_rfl) (by kernel_rfl) (by kernel_rfl) (fun _ _ _ h => h) (Or.inl ⟨by rfl, ?_⟩) (by assumption) ?_; rotate_left 1; (focus (intro wS hSw; obtain ⟨hS1, hS2, hS3, hS4⟩ := hSw; go_simp <;> with_reducible rfl)); (try simp only [Act.put, List.setIfInBounds_toArray, List.set_cons_zero, List.set_cons_succ]))
  (refine Lw.take1 (i := 2) (v := ?_) rfl (by kernel_rfl) (by kernel_rfl) (by kernel_rfl) (fun _ _ _ h => h) (Or.inl ⟨by rfl, ?_⟩) (by assumption) ?_; rotate_left 1; (focus (intro wS hSw; obtain ⟨hS1, hS2, hS3, hS4⟩ := hSw; go_simp <;> with_reducible rfl)); (try simp only [Act.put, List.setIfInBounds_toArray, List.set_cons_zero, List.set_cons_succ]))
  (refine Lw.take1 (i := 3) (v := ?_) rfl (by kernel_rfl) (by kernel_rfl) (by kernel_rfl) (fun _ _ _ h => h) (Or.inl ⟨by rfl, ?_⟩) (by assumption) ?_; rotate_left 1; (focus (intro wS hSw; obtain ⟨hS1, hS2, hS3, hS4⟩ := hSw; go_simp <;> with_reducible rfl)); (try simp only [Act.put, List.setIfInBounds_toArray, List.set_cons_zero, List.set_cons_succ]))
  (refine Lw.take1 (i := 5) (v := ?_) rfl (by kernel_rfl) (by kernel_rfl) (by kernel_rfl) (fun _ _ _ h => h) (Or.inl ⟨by rfl, ?_⟩) (by assumption) ?_; rotate_left 1; (focus (intro wS hSw; obtain ⟨hS1, hS2, hS3, hS4⟩ := hSw; go_simp <;> with_reducible rfl)); (try simp only [Act.put, List.setIfInBounds_toArray, List.set_cons_zero, List.set_cons_succ]))
  (refine Lw.take1 (i := 6) (v := ?_) rfl (by kernel_rfl) (by kernel_rfl) (by kernel_rfl) (fun _ _ _ h => h) (Or.inl ⟨by rfl, ?_⟩) (by assumption) ?_; rotate_left 1; (focus (intro wS hSw; obtain ⟨hS1, hS2, hS3, hS4⟩ := hSw; go_simp <;> with_reducible rfl)); (try simp only [Act.put, List.setIfInBounds_toArray, List.set_cons_zero, List.set_cons_succ]))
  (refine Lw.take1 (i := 7) (v := ?_) rfl (by kernel_rfl) (by kernel_rfl) (by kernel_rfl) (fun _ _ _ h => h) (Or.inl ⟨by rfl, ?_⟩) (by assumption) ?_; rotate_left 1; (focus (intro wS hSw; obtain ⟨hS1, hS2, hS3, hS4⟩ := hSw; go_simp <;> with_reducible rfl)); (try simp only [Act.put, List.setIfInBounds_toArray, List.set_cons_zero, List.set_cons_succ]))
  (refine Lw.take1 (i := 8) (v := ?_) rfl (by kernel_rfl) (by kernel_rfl) (by kernel_rfl) (fun _ _ _ h => h) (Or.inl ⟨by rfl, ?_⟩) (by assumption) ?_; rotate_left 1; (focus (intro wS hSw; obtain ⟨hS1, hS2, hS3, hS4⟩ := hSw; go_simp <;> with_reducible rfl)); (try simp only [Act.put, List.setIfInBounds_toArray, List.set_cons_zero, List.set_cons_succ]))
  (refine Lw.take1 (i := 10) (v := ?_) rfl (by kernel_rfl) (by kernel_rfl) (by kernel_rfl) (fun _ _ _ h => h) (Or.inl ⟨by rfl, ?_⟩) (by assumption) ?_; rotate_left 1; (focus (intro wS hSw; obtain ⟨hS1, hS2, hS3, hS4⟩ := hSw; go_simp <;> with_reducible rfl)); (try simp only [Act.put, List.setIfInBounds_toArray, List.set_cons_zero, List.set_cons_succ]))
  (refine Lw.take1 (i := 11) (v := ?_) rfl (by kernel_rfl) (by kernel_rfl) (by kernel_rfl) (fun _ _ _ h => h) (Or.inl ⟨by rfl, ?_⟩) (by assumption) ?_; rotate_left 1; (focus (intro wS hSw; obtain ⟨hS1, hS2, hS3, hS4⟩ := hSw; go_simp <;> with_reducible rfl)); (try simp only [Act.put, List.setIfInBounds_toArray, List.set_cons_zero, List.set_cons_succ]))
  (refine Lw.take1 (i := 12) (v := ?_) rfl (by kernel_rfl) (by kernel_rfl) (by kernel_rfl) (fun _ _ _ h => h) (Or.inl ⟨by rfl, ?_⟩) (by assumption) ?_; rotate_left 1; (focus (intro wS hSw; obtain ⟨hS1, hS2, hS3, hS4⟩ := hSw; go_simp <;> with_reducible rfl)); (try simp only [Act.put, List.setIfInBounds_toArray, List.set_cons_zero, List.set_cons_succ]))
  (refine Lw.take1 (i := 14) (v := ?_) rfl (by kernel_rfl) (by kernel_rfl) (by kernel_rfl) (fun _ _ _ h => h) (Or.inl ⟨by rfl, ?_⟩) (by assumption) ?_; rotate_left 1; (focus (intro wS hSw; obtain ⟨hS1, hS2, hS3, hS4⟩ := hSw; go_simp <;> with_reducible rfl)); (try simp only [Act.put, List.setIfInBounds_toArray, List.set_cons_zero, List.set_cons_succ]))
  (refine Lw.take1 (i := 15) (v := ?_) rfl (by kernel_rfl) (by kernel_rfl) (by kernel_rfl) (fun _ _ _ h => h) (Or.inl ⟨by rfl, ?_⟩) (by assumption) ?_; rotate_left 1; (focus (intro wS hSw; obtain ⟨hS1, hS2, hS3, hS4⟩ := hSw; go_simp <;> with_reducible rfl)); (try simp only [Act.put, List.setIfInBounds_toArray, List.set_cons_zero, List.set_cons_succ]))
  (refine Lw.take1 (i := 16) (v := ?_) rfl (by kernel_rfl) (by kernel_rfl) (by kernel_rfl) (fun _ _ _ h => h) (Or.inl ⟨by rfl, ?_⟩) (by assumption) ?_; rotate_left 1; (focus (intro wS hSw; obtain ⟨hS1, hS2, hS3, hS4⟩ := hSw; go_simp <;> with_reducible rfl)); (try simp only [Act.put, List.setIfInBounds_toArray, List.set_cons_zero, List.set_cons_succ]))
  (refine wpAnyH_ready (rs := [4]) (by kernel_rfl) (by simp) ?_; refine Lw.cons1 (i := 4) rfl (fun K hK => ?_) AllReadyH.nil; go_simp; go_at_call 48; (with_reducible refine (S2.out _ _ (((Lw.sm_bel hS1).block _ g2).trans B2.out)).mono ?_); rintro e w2 ⟨rfl, hb2⟩; refine hK.out _ _ ?_ (fun hHeld => ?_); (focus exact Lw.sm_keep hS1 hb2); clear hK K; (try simp only [Act.put, List.setIfInBounds_toArray, List.set_cons_zero, List.set_cons_succ]))
  have hS2 := Lw.sm_keep hS1 hb2
  (refine wpAnyH_ready (rs := [9]) (by kernel_rfl) (by simp) ?_; refine Lw.cons1 (i := 9) rfl (fun K hK => ?_) AllReadyH.nil; go_simp; go_at_call 48; (with_reducible refine (S1.out _ _ (((Lw.sm_bel hS2).block _ g2).trans B2.out)).mono ?_); rintro e w3 ⟨rfl, hb3⟩; refine hK.out _ _ ?_ (fun hHeld => ?_); (focus exact Lw.sm_keep hS2 hb3); clear hK K; (try simp only [Act.put, List.setIfInBounds_toArray, List.set_cons_zero, List.set_cons_succ]))
  have hS3 := Lw.sm_keep hS2 hb3
  (refine wpAnyH_ready (rs := [13]) (by kernel_rfl) (by simp) ?_; refine Lw.cons1 (i := 13) rfl (fun K hK => ?_) AllReadyH.nil; go_simp; go_at_call 48; (with_reducible refine (S3.out _ _ (((Lw.sm_bel hS3).block _ g2).trans B2.out)).mono ?_); rintro e w4 ⟨rfl, hb4⟩; refine hK.out _ _ ?_ (fun hHeld => ?_); (focus exact Lw.sm_keep hS3 hb4); clear hK K; (try simp only [Act.put, List.setIfInBounds_toArray, List.set_cons_zero, List.set_cons_succ]))
  have hS4 := Lw.sm_keep hS3 hb4
  (refine wpAnyH_ready (rs := [17]) (by kernel_rfl) (by simp) ?_; refine Lw.cons1 (i := 17) rfl (fun K hK => ?_) AllReadyH.nil; go_simp; go_at_call 48; (with_reducible refine (S4.out _ _ (((Lw.sm_bel hS4).block _ g2).trans B2.out)).mono ?_); rintro e w5 ⟨rfl, hb5⟩; refine hK.out _ _ ?_ (fun hHeld => ?_); (focus exact Lw.sm_keep hS4 hb5); clear hK K; (try simp only [Act.put, List.setIfInBounds_toArray, List.set_cons_zero, List.set_cons_succ]))
  have hS5 := Lw.sm_keep hS4 hb5
  (refine Lw.take1 (i := 18) (v := ?_) rfl (by kernel_rfl) (by kernel_rfl) (by kernel_rfl) (fun _ _ _ h => h) (Or.inl ⟨by rfl, ?_⟩) (by assumption) ?_; rotate_left 1; (focus (intro wS hSw; obtain ⟨hS1, hS2, hS3, hS4⟩ := hSw; go_simp <;> with_reducible rfl)); (try simp only [Act.put, List.setIfInBounds_toArray, List.set_cons_zero, List.set_cons_succ]))
  (refine Lw.take1 (i := 19) (v := ?_) rfl (by kernel_rfl) (by kernel_rfl) (by kernel_rfl) (fun _ _ _ h => h) (Or.inl ⟨by rfl, ?_⟩) (by assumption) ?_; rotate_left 1; (focus (intro wS hSw; obtain ⟨hS1, hS2, hS3, hS4⟩ := hSw; go_simp <;> with_reducible rfl)); (try simp only [Act.put, List.setIfInBounds_toArray, List.set_cons_zero, List.set_cons_succ]))
  (refine Lw.take1 (i := 20) (v := ?_) rfl (by kernel_rfl) (by kernel_rfl) (by kernel_rfl) (fun _ _ _ h => h) (Or.inl ⟨by rfl, ?_⟩) (by assumption) ?_; rotate_left 1; (focus (intro wS hSw; obtain ⟨hS1, hS2, hS3, hS4⟩ := hSw; go_simp <;> with_reducible rfl)); (try simp only [Act.put, List.setIfInBounds_toArray, List.set_cons_zero, List.set_cons_succ]))
  (refine Lw.take1 (i := 21) (v := ?_) rfl (by kernel_rfl) (by kernel_rfl) (by kernel_rfl) (fun _ _ _ h => h) (Or.inl ⟨by rfl, ?_⟩) (by assumption) ?_; rotate_left 1; (focus (intro wS hSw; obtain ⟨hS1, hS2, hS3, hS4⟩ := hSw; go_simp <;> with_reducible rfl)); (try simp only [Act.put, List.setIfInBounds_toArray, List.set_cons_zero, List.set_cons_succ]))
  refine wpAnyH_done (by kernel_rfl) ?_ _
  clear hHeld hb2 hb3 hb4 hb5
  have hB5 := Lw.bt hB1 (Lw.sm_bel hS5)
  have hz5 := (Lw.sm_bel hS5).size
  have c5 := Lw.blk_cell (((Lw.sm_bel hS5).block _ g2).trans B2.out) 4
  simp at c5
  have B15 := Lib.hid (((Lw.sm_bel hS5).block _ g1).trans B1.out)
  clear hS1 hS2 hS3 hS4 hS5 m0 m1 m2 m3
  go_wp2_with (first | (go_at_call 50; (with_reducible refine (TX.out _ _ _ (by first | exact Lw.Rd.nil _ _ _ | exact Lw.Rd.lit (Lw.blk_new' (by simp) _ _) rfl rfl | exact Lw.Rd.lit (Lw.blk_alloc (Lw.blk_new' (by simp) _ _) _) rfl rfl)).mono ?_); rintro e w6 ⟨A6, c6, rfl, own6, hb6⟩) | (go_at_call 49; (with_reducible refine (SU.out _ _ _ (Lw.Rd.of_own own6)).mono ?_); rintro e w7 ⟨rfl, hb7⟩; have hz6 := hb6.size; have hz7 := hb7.size; simp at hz6; have B17 := Lib.hid ((hb7.block (w.heap.size + 1) (by omega)).trans ((hb6.block (w.heap.size + 1) (by simp; omega)).trans (Lw.blk_alloc B15.out _))); have l0 := Lw.blk_cell B17.out 0; have l1 := Lw.blk_cell B17.out 1; have l2 := Lw.blk_cell B17.out 2; have fr := fun i => Lw.blk_free B17.out i; simp at l0 l1 l2))
  refine bodyPost_ret (v := .tuple #[.agg #[.int .i64 f, .int .i64 t2, .int .i64 t1], .int .i64 0]) (by simp [results, Try.results31, go_sem, l0, l1, l2]) rfl ⟨rfl, ?_⟩
  exact Lw.bset (Lw.bset (Lw.bset (Lw.bt (Lw.bt (Lw.balloc hB5 _) hb6) hb7) (by simp) _) (by simp) _) (by simp) _
set_option maxHeartbeats 4000000 in
theorem shake_Answer_bad1 (P Q G H a k x E : Int) (w : World) (E1_a : Lw.askE P Q G H [a] [G] = E) (hn : (E != 0) = true) :
    Calls Try.prog 31 #[.agg #[.int .i64 P, .int .i64 Q, .int .i64 G, .int .i64 H], .int .i64 a, .int .i64 k, .int .i64 x] w fun e w' => e = .returned (.tuple #[.agg #[.int .i64 0, .int .i64 0, .int .i64 0], .int .i64 E]) ∧ Below w.heap.size w w' := by
  obtain ⟨W0, hW0⟩ : ∃ W, (w.alloc (.cells #[.int .i64 P, .int .i64 Q, .int .i64 G, .int .i64 H] 23)).alloc (.cells #[.int .i64 0, .int .i64 0, .int .i64 0] 52) = W := ⟨_, rfl⟩
  have B0 := Lib.hid (show W0.heap[w.heap.size]? = some (.cells #[.int .i64 P, .int .i64 Q, .int .i64 G, .int .i64 H] 23 (0, 0)) from hW0 ▸ Lw.blk_alloc (Lw.blk_new _ _ _) _)
  have B1 := Lib.hid (show W0.heap[w.heap.size + 1]? = some (.cells #[.int .i64 0, .int .i64 0, .int .i64 0] 52 (0, 0)) from hW0 ▸ Lw.blk_new' (by simp) _ _)
  have hBW : Below w.heap.size w W0 := by rw [← hW0]; (repeat (first | exact Below.refl _ _ | refine Lw.bt ?_ (by assumption) | refine Lw.balloc ?_ _ | refine Lw.bdrewN ?_ _ | refine Below.drew ?_ | refine Lw.bset ?_ (by first | (simp; done) | (simp; omega) | omega) _))
  have z1 : W0.heap.size ≤ w.heap.size + 1 + 1 := by rw [← hW0]; simp
  have z2 : w.heap.size + 1 + 1 ≤ W0.heap.size := by rw [← hW0]; simp
  have HZ : Hid (W0.heap.size = w.heap.size + 1 + 1) := by show _ = _; omega
  have HW0 := Lib.hid hW0
  clear hW0
  have g0 : w.heap.size < W0.heap.size := by omega
  have g1 : w.heap.size + 1 < W0.heap.size := by omega
  have m0 := Lw.blk_cell B0.out 0; have m1 := Lw.blk_cell B0.out 1; have m2 := Lw.blk_cell B0.out 2; have m3 := Lw.blk_cell B0.out 3
  simp at m0 m1 m2 m3

  have SK := Lib.hid (fun (k x : Int) (b : Nat) (w : World) hb => shake_shared_skip P Q G H k x E b w hb hn)
  go_enter Try.func31, Try.ntmps31
  go_wp2_with fail
  rw [HW0.out]
  have hS0 : Lw.Sm W0 (W0.alloc (.cells #[.int .i64 P, .int .i64 Q, .int .i64 G, .int .i64 H, .int .i64 0] 89)) := Lw.sm_of (Lw.balloc (Below.refl _ _) _)
  have BE0 := Lib.hid (Lw.blk_new' HZ.out #[.int .i64 P, .int .i64 Q, .int .i64 G, .int .i64 H, .int .i64 0] 89)
  refine (shake_shared_bad P Q G H a G E _ _ BE0.out E1_a hn).mono ?_
  rintro e w1 ⟨rfl, hB1, hb1⟩
  have hS1 := Lw.sm_of ((Lw.sm_bel hS0).trans (hb1.mono z1))
  have BE1 := Lib.hid hB1
  clear hb1 hB1
  go_wp2
  have hS1o := hS1
  have hS1 := Lw.sm_drew' hS1
  have BE1 := Lib.hid (Lw.blk_drew BE1.out)
  refine wp_region_held_drew (S := Lw.Sm W0) (by kernel_rfl) hS1 (fun hHeld => ?_)
  (refine Lw.take1 (i := 0) (v := ?_) rfl (by kernel_rfl) (by kernel_rfl) (by kernel_rfl) (fun _ _ _ h => h) (Or.inl ⟨by rfl, ?_⟩) (by assumption) ?_; rotate_left 1; (focus (intro wS hSw; obtain ⟨hS1, hS2, hS3, hS4⟩ := hSw; go_simp <;> with_reducible rfl)); (try simp only [Act.put, List.setIfInBounds_toArray, List.set_cons_zero, List.set_cons_succ]))
  (refine Lw.take1 (i := 1) (v := ?_) rfl (by kernel_rfl) (by kernel_rfl) (by kernel_rfl) (fun _ _ _ h => h) (Or.inl ⟨by rfl, ?_⟩) (by assumption) ?_; rotate_left 1; (focus (intro wS hSw; obtain ⟨hS1, hS2, hS3, hS4⟩ := hSw; go_simp <;> with_reducible rfl)); (try simp only [Act.put, List.setIfInBounds_toArray, List.set_cons_zero, List.set_cons_succ]))
  (refine Lw.take1 (i := 2) (v := ?_) rfl (by kernel_rfl) (by kernel_rfl) (by kernel_rfl) (fun _ _ _ h => h) (Or.inl ⟨by rfl, ?_⟩) (by assumption) ?_; rotate_left 1; (focus (intro wS hSw; obtain ⟨hS1, hS2, hS3, hS4⟩ := hSw; go_simp <;> with_reducible rfl)); (try simp only [Act.put, List.setIfInBounds_toArray, List.set_cons_zero, List.set_cons_succ]))
  (refine Lw.take1 (i := 3) (v := ?_) rfl (by kernel_rfl) (by kernel_rfl) (by kernel_rfl) (fun _ _ _ h => h) (Or.inl ⟨by rfl, ?_⟩) (by assumption) ?_; rotate_left 1; (focus (intro wS hSw; obtain ⟨hS1, hS2, hS3, hS4⟩ := hSw; go_simp <;> with_reducible rfl)); (try simp only [Act.put, List.setIfInBounds_toArray, List.set_cons_zero, List.set_cons_succ]))
  (refine Lw.take1 (i := 5) (v := ?_) rfl (by kernel_rfl) (by kernel_rfl) (by kernel_rfl) (fun _ _ _ h => h) (Or.inl ⟨by rfl, ?_⟩) (by assumption) ?_; rotate_left 1; (focus (intro wS hSw; obtain ⟨hS1, hS2, hS3, hS4⟩ := hSw; go_simp <;> with_reducible rfl)); (try simp only [Act.put, List.setIfInBounds_toArray, List.set_cons_zero, List.set_cons_succ]))
  (refine Lw.take1 (i := 6) (v := ?_) rfl (by kernel_rfl) (by kernel_rfl) (by kernel_rfl) (fun _ _ _ h => h) (Or.inl ⟨by rfl, ?_⟩) (by assumption) ?_; rotate_left 1; (focus (intro wS hSw; obtain ⟨hS1, hS2, hS3, hS4⟩ := hSw; go_simp <;> with_reducible rfl)); (try simp only [Act.put, List.setIfInBounds_toArray, List.set_cons_zero, List.set_cons_succ]))
  (refine Lw.take1 (i := 7) (v := ?_) rfl (by kernel_rfl) (by kernel_rfl) (by kernel_rfl) (fun _ _ _ h => h) (Or.inl ⟨by rfl, ?_⟩) (by assumption) ?_; rotate_left 1; (focus (intro wS hSw; obtain ⟨hS1, hS2, hS3, hS4⟩ := hSw; go_simp <;> with_reducible rfl)); (try simp only [Act.put, List.setIfInBounds_toArray, List.set_cons_zero, List.set_cons_succ]))
  (refine Lw.take1 (i := 8) (v := ?_) rfl (by kernel_rfl) (by kernel_rfl) (by kernel_rfl) (fun _ _ _ h => h) (Or.inl ⟨by rfl, ?_⟩) (by assumption) ?_; rotate_left 1; (focus (intro wS hSw; obtain ⟨hS1, hS2, hS3, hS4⟩ := hSw; go_simp <;> with_reducible rfl)); (try simp only [Act.put, List.setIfInBounds_toArray, List.set_cons_zero, List.set_cons_succ]))
  (refine Lw.take1 (i := 10) (v := ?_) rfl (by kernel_rfl) (by kernel_rfl) (by kernel_rfl) (fun _ _ _ h => h) (Or.inl ⟨by rfl, ?_⟩) (by assumption) ?_; rotate_left 1; (focus (intro wS hSw; obtain ⟨hS1, hS2, hS3, hS4⟩ := hSw; go_simp <;> with_reducible rfl)); (try simp only [Act.put, List.setIfInBounds_toArray, List.set_cons_zero, List.set_cons_succ]))
  (refine Lw.take1 (i := 11) (v := ?_) rfl (by kernel_rfl) (by kernel_rfl) (by kernel_rfl) (fun _ _ _ h => h) (Or.inl ⟨by rfl, ?_⟩) (by assumption) ?_; rotate_left 1; (focus (intro wS hSw; obtain ⟨hS1, hS2, hS3, hS4⟩ := hSw; go_simp <;> with_reducible rfl)); (try simp only [Act.put, List.setIfInBounds_toArray, List.set_cons_zero, List.set_cons_succ]))
  (refine Lw.take1 (i := 12) (v := ?_) rfl (by kernel_rfl) (by kernel_rfl) (by kernel_rfl) (fun _ _ _ h => h) (Or.inl ⟨by rfl, ?_⟩) (by assumption) ?_; rotate_left 1; (focus (intro wS hSw; obtain ⟨hS1, hS2, hS3, hS4⟩ := hSw; go_simp <;> with_reducible rfl)); (try simp only [Act.put, List.setIfInBounds_toArray, List.set_cons_zero, List.set_cons_succ]))
  (refine Lw.take1 (i := 14) (v := ?_) rfl (by kernel_rfl) (by kernel_rfl) (by kernel_rfl) (fun _ _ _ h => h) (Or.inl ⟨by rfl, ?_⟩) (by assumption) ?_; rotate_left 1; (focus (intro wS hSw; obtain ⟨hS1, hS2, hS3, hS4⟩ := hSw; go_simp <;> with_reducible rfl)); (try simp only [Act.put, List.setIfInBounds_toArray, List.set_cons_zero, List.set_cons_succ]))
  (refine Lw.take1 (i := 15) (v := ?_) rfl (by kernel_rfl) (by kernel_rfl) (by kernel_rfl) (fun _ _ _ h => h) (Or.inl ⟨by rfl, ?_⟩) (by assumption) ?_; rotate_left 1; (focus (intro wS hSw; obtain ⟨hS1, hS2, hS3, hS4⟩ := hSw; go_simp <;> with_reducible rfl)); (try simp only [Act.put, List.setIfInBounds_toArray, List.set_cons_zero, List.set_cons_succ]))
  (refine Lw.take1 (i := 16) (v := ?_) rfl (by kernel_rfl) (by kernel_rfl) (by kernel_rfl) (fun _ _ _ h => h) (Or.inl ⟨by rfl, ?_⟩) (by assumption) ?_; rotate_left 1; (focus (intro wS hSw; obtain ⟨hS1, hS2, hS3, hS4⟩ := hSw; go_simp <;> with_reducible rfl)); (try simp only [Act.put, List.setIfInBounds_toArray, List.set_cons_zero, List.set_cons_succ]))
  (refine wpAnyH_ready (rs := [4]) (by kernel_rfl) (by simp) ?_; refine Lw.cons1 (i := 4) rfl (fun K hK => ?_) AllReadyH.nil; go_simp; go_at_call 48; (with_reducible refine (SK.out k G _ _ BE1.out).mono ?_); rintro e wx ⟨rfl, rfl⟩; refine hK.out _ _ ?_ (fun hHeld => ?_); (focus exact hS1); clear hK K; (try simp only [Act.put, List.setIfInBounds_toArray, List.set_cons_zero, List.set_cons_succ]))
  (refine wpAnyH_ready (rs := [9]) (by kernel_rfl) (by simp) ?_; refine Lw.cons1 (i := 9) rfl (fun K hK => ?_) AllReadyH.nil; go_simp; go_at_call 48; (with_reducible refine (SK.out a G _ _ BE1.out).mono ?_); rintro e wx ⟨rfl, rfl⟩; refine hK.out _ _ ?_ (fun hHeld => ?_); (focus exact hS1); clear hK K; (try simp only [Act.put, List.setIfInBounds_toArray, List.set_cons_zero, List.set_cons_succ]))
  (refine wpAnyH_ready (rs := [13]) (by kernel_rfl) (by simp) ?_; refine Lw.cons1 (i := 13) rfl (fun K hK => ?_) AllReadyH.nil; go_simp; go_at_call 48; (with_reducible refine (SK.out a x _ _ BE1.out).mono ?_); rintro e wx ⟨rfl, rfl⟩; refine hK.out _ _ ?_ (fun hHeld => ?_); (focus exact hS1); clear hK K; (try simp only [Act.put, List.setIfInBounds_toArray, List.set_cons_zero, List.set_cons_succ]))
  (refine wpAnyH_ready (rs := [17]) (by kernel_rfl) (by simp) ?_; refine Lw.cons1 (i := 17) rfl (fun K hK => ?_) AllReadyH.nil; go_simp; go_at_call 48; (with_reducible refine (SK.out k x _ _ BE1.out).mono ?_); rintro e wx ⟨rfl, rfl⟩; refine hK.out _ _ ?_ (fun hHeld => ?_); (focus exact hS1); clear hK K; (try simp only [Act.put, List.setIfInBounds_toArray, List.set_cons_zero, List.set_cons_succ]))
  (refine Lw.take1 (i := 18) (v := ?_) rfl (by kernel_rfl) (by kernel_rfl) (by kernel_rfl) (fun _ _ _ h => h) (Or.inl ⟨by rfl, ?_⟩) (by assumption) ?_; rotate_left 1; (focus (intro wS hSw; obtain ⟨hS1, hS2, hS3, hS4⟩ := hSw; go_simp <;> with_reducible rfl)); (try simp only [Act.put, List.setIfInBounds_toArray, List.set_cons_zero, List.set_cons_succ]))
  (refine Lw.take1 (i := 19) (v := ?_) rfl (by kernel_rfl) (by kernel_rfl) (by kernel_rfl) (fun _ _ _ h => h) (Or.inl ⟨by rfl, ?_⟩) (by assumption) ?_; rotate_left 1; (focus (intro wS hSw; obtain ⟨hS1, hS2, hS3, hS4⟩ := hSw; go_simp <;> with_reducible rfl)); (try simp only [Act.put, List.setIfInBounds_toArray, List.set_cons_zero, List.set_cons_succ]))
  (refine Lw.take1 (i := 20) (v := ?_) rfl (by kernel_rfl) (by kernel_rfl) (by kernel_rfl) (fun _ _ _ h => h) (Or.inl ⟨by rfl, ?_⟩) (by assumption) ?_; rotate_left 1; (focus (intro wS hSw; obtain ⟨hS1, hS2, hS3, hS4⟩ := hSw; go_simp <;> with_reducible rfl)); (try simp only [Act.put, List.setIfInBounds_toArray, List.set_cons_zero, List.set_cons_succ]))
  (refine Lw.take1 (i := 21) (v := ?_) rfl (by kernel_rfl) (by kernel_rfl) (by kernel_rfl) (fun _ _ _ h => h) (Or.inl ⟨by rfl, ?_⟩) (by assumption) ?_; rotate_left 1; (focus (intro wS hSw; obtain ⟨hS1, hS2, hS3, hS4⟩ := hSw; go_simp <;> with_reducible rfl)); (try simp only [Act.put, List.setIfInBounds_toArray, List.set_cons_zero, List.set_cons_succ]))
  refine wpAnyH_done (by kernel_rfl) ?_ _
  clear hHeld m0 m1 m2 m3
  have hB9 := Lw.bt hBW (Lw.sm_bel hS1o)
  have c5 := Lw.blk_cell BE1.out 4
  have B19 := Lib.hid (((Lw.sm_bel hS1).block _ g1).trans B1.out)
  have l0 := Lw.blk_cell B19.out 0; have l1 := Lw.blk_cell B19.out 1; have l2 := Lw.blk_cell B19.out 2; have fr := fun i => Lw.blk_free B19.out i
  simp at c5 l0 l1 l2
  go_wp2
  (try simp only [World.frozen?_drew] at fr)
  refine wp_region_held_drew (S := fun w' => w'.cell? ⟨w.heap.size + 1 + 1, 4, none⟩ = some (.int .i64 E)) (by kernel_rfl) (by exact c5) (fun hHeld => ?_)
  refine Lw.take1 (i := 0) (v := ?_) rfl (by kernel_rfl) (by kernel_rfl) (by kernel_rfl) (fun _ _ _ h => h) (Or.inl ⟨by rfl, ?_⟩) (by assumption) ?_
  rotate_left 1
  · (intro wS hSw; (try dsimp only at hSw); go_simp <;> with_reducible rfl)
  (try simp only [Act.put, List.setIfInBounds_toArray, List.set_cons_zero, List.set_cons_succ])
  refine Lw.take1 (i := 1) (v := ?_) rfl (by kernel_rfl) (by kernel_rfl) (by kernel_rfl) (fun _ _ _ h => h) (Or.inl ⟨by rfl, ?_⟩) (by assumption) ?_
  rotate_left 1
  · (intro wS hSw; (try dsimp only at hSw); go_simp <;> with_reducible rfl)
  (try simp only [Act.put, List.setIfInBounds_toArray, List.set_cons_zero, List.set_cons_succ])
  refine Lw.take1 (i := 2) (v := ?_) rfl (by kernel_rfl) (by kernel_rfl) (by kernel_rfl) (fun _ _ _ h => h) (Or.inl ⟨by rfl, ?_⟩) (by assumption) ?_
  rotate_left 1
  · (intro wS hSw; (try dsimp only at hSw); go_simp <;> with_reducible rfl)
  (try simp only [Act.put, List.setIfInBounds_toArray, List.set_cons_zero, List.set_cons_succ])
  refine Lw.take1 (i := 3) (v := ?_) rfl (by kernel_rfl) (by kernel_rfl) (by kernel_rfl) (fun _ _ _ h => h) (Or.inl ⟨by rfl, ?_⟩) (by assumption) ?_
  rotate_left 1
  · (intro wS hSw; (try dsimp only at hSw); go_simp <;> with_reducible rfl)
  (try simp only [Act.put, List.setIfInBounds_toArray, List.set_cons_zero, List.set_cons_succ])
  refine Lw.take1 (i := 4) (v := ?_) rfl (by kernel_rfl) (by kernel_rfl) (by kernel_rfl) (fun _ _ _ h => h) (Or.inl ⟨by rfl, ?_⟩) (by assumption) ?_
  rotate_left 1
  · (intro wS hSw; (try dsimp only at hSw); go_simp <;> with_reducible rfl)
  (try simp only [Act.put, List.setIfInBounds_toArray, List.set_cons_zero, List.set_cons_succ])
  (refine wpAnyH_ready (rs := [5]) (by kernel_rfl) (by simp) ?_; refine Lw.cons1 (i := 5) rfl (fun K hK => ?_) AllReadyH.nil; go_simp; refine hK.out _ _ ?_ (fun hHeld => ?_); (focus exact (by have := Lw.cell_far3 (x := .int .i64 0) (y := .int .i64 0) (z := .int .i64 0) (b := w.heap.size + 1) (by omega) c5; simpa using this)); clear hK K; (try simp only [Act.put, List.setIfInBounds_toArray, List.set_cons_zero, List.set_cons_succ]))
  refine Lw.take1 (i := 6) (v := ?_) rfl (by kernel_rfl) (by kernel_rfl) (by kernel_rfl) (fun _ _ _ h => h) (Or.inl ⟨by rfl, ?_⟩) (by assumption) ?_
  rotate_left 1
  · (intro wS hSw; (try dsimp only at hSw); go_simp <;> with_reducible rfl)
  (try simp only [Act.put, List.setIfInBounds_toArray, List.set_cons_zero, List.set_cons_succ])
  refine wpAnyH_done (by kernel_rfl) ?_ _
  go_wp2
  refine bodyPost_ret (v := .tuple #[.agg #[.int .i64 0, .int .i64 0, .int .i64 0], .int .i64 E]) (by simp [results, Try.results31, go_sem, l0, l1, l2]) rfl ⟨rfl, ?_⟩
  (repeat with_reducible refine Below.drew ?_)
  exact Lw.bset (Lw.bset (Lw.bset hB9 (by simp) _) (by simp) _) (by simp) _
set_option maxHeartbeats 4000000 in
theorem shake_Answer_bad2 (P Q G H a k x E : Int) (w : World) (E1_a : Lw.askE P Q G H [a] [G] = 0) (E1_k : Lw.askE P Q G H [k] [G] = E) (hn : (E != 0) = true) :
    Calls Try.prog 31 #[.agg #[.int .i64 P, .int .i64 Q, .int .i64 G, .int .i64 H], .int .i64 a, .int .i64 k, .int .i64 x] w fun e w' => e = .returned (.tuple #[.agg #[.int .i64 0, .int .i64 0, .int .i64 0], .int .i64 E]) ∧ Below w.heap.size w w' := by
  obtain ⟨W0, hW0⟩ : ∃ W, (w.alloc (.cells #[.int .i64 P, .int .i64 Q, .int .i64 G, .int .i64 H] 23)).alloc (.cells #[.int .i64 0, .int .i64 0, .int .i64 0] 52) = W := ⟨_, rfl⟩
  have B0 := Lib.hid (show W0.heap[w.heap.size]? = some (.cells #[.int .i64 P, .int .i64 Q, .int .i64 G, .int .i64 H] 23 (0, 0)) from hW0 ▸ Lw.blk_alloc (Lw.blk_new _ _ _) _)
  have B1 := Lib.hid (show W0.heap[w.heap.size + 1]? = some (.cells #[.int .i64 0, .int .i64 0, .int .i64 0] 52 (0, 0)) from hW0 ▸ Lw.blk_new' (by simp) _ _)
  have hBW : Below w.heap.size w W0 := by rw [← hW0]; (repeat (first | exact Below.refl _ _ | refine Lw.bt ?_ (by assumption) | refine Lw.balloc ?_ _ | refine Lw.bdrewN ?_ _ | refine Below.drew ?_ | refine Lw.bset ?_ (by first | (simp; done) | (simp; omega) | omega) _))
  have z1 : W0.heap.size ≤ w.heap.size + 1 + 1 := by rw [← hW0]; simp
  have z2 : w.heap.size + 1 + 1 ≤ W0.heap.size := by rw [← hW0]; simp
  have HZ : Hid (W0.heap.size = w.heap.size + 1 + 1) := by show _ = _; omega
  have HW0 := Lib.hid hW0
  clear hW0
  have g0 : w.heap.size < W0.heap.size := by omega
  have g1 : w.heap.size + 1 < W0.heap.size := by omega
  have m0 := Lw.blk_cell B0.out 0; have m1 := Lw.blk_cell B0.out 1; have m2 := Lw.blk_cell B0.out 2; have m3 := Lw.blk_cell B0.out 3
  simp at m0 m1 m2 m3

  have SK := Lib.hid (fun (k x : Int) (b : Nat) (w : World) hb => shake_shared_skip P Q G H k x E b w hb hn)
  go_enter Try.func31, Try.ntmps31
  go_wp2_with fail
  rw [HW0.out]
  have hS0 : Lw.Sm W0 (W0.alloc (.cells #[.int .i64 P, .int .i64 Q, .int .i64 G, .int .i64 H, .int .i64 0] 89)) := Lw.sm_of (Lw.balloc (Below.refl _ _) _)
  have BE0 := Lib.hid (Lw.blk_new' HZ.out #[.int .i64 P, .int .i64 Q, .int .i64 G, .int .i64 H, .int .i64 0] 89)
  refine (shake_shared_ok P Q G H a G _ _ BE0.out E1_a).mono ?_
  rintro e w1 ⟨rfl, hb1⟩
  have hS1 := Lw.sm_keep hS0 hb1
  have BE1 := Lib.hid ((hb1.block _ (Lw.blk_lt BE0.out)).trans BE0.out)
  clear hb1
  go_wp2
  have hS1o := hS1
  have hS1 := Lw.sm_drew' hS1
  have BE1 := Lib.hid (Lw.blk_drew BE1.out)
  refine wp_region_held_drew (S := Lw.Sm W0) (by kernel_rfl) hS1 (fun hHeld => ?_)
  (refine Lw.take1 (i := 0) (v := ?_) rfl (by kernel_rfl) (by kernel_rfl) (by kernel_rfl) (fun _ _ _ h => h) (Or.inl ⟨by rfl, ?_⟩) (by assumption) ?_; rotate_left 1; (focus (intro wS hSw; obtain ⟨hS1, hS2, hS3, hS4⟩ := hSw; go_simp <;> with_reducible rfl)); (try simp only [Act.put, List.setIfInBounds_toArray, List.set_cons_zero, List.set_cons_succ]))
  (refine Lw.take1 (i := 1) (v := ?_) rfl (by kernel_rfl) (by kernel_rfl) (by kernel_rfl) (fun _ _ _ h => h) (Or.inl ⟨by rfl, ?_⟩) (by assumption) ?_; rotate_left 1; (focus (intro wS hSw; obtain ⟨hS1, hS2, hS3, hS4⟩ := hSw; go_simp <;> with_reducible rfl)); (try simp only [Act.put, List.setIfInBounds_toArray, List.set_cons_zero, List.set_cons_succ]))
  (refine Lw.take1 (i := 2) (v := ?_) rfl (by kernel_rfl) (by kernel_rfl) (by kernel_rfl) (fun _ _ _ h => h) (Or.inl ⟨by rfl, ?_⟩) (by assumption) ?_; rotate_left 1; (focus (intro wS hSw; obtain ⟨hS1, hS2, hS3, hS4⟩ := hSw; go_simp <;> with_reducible rfl)); (try simp only [Act.put, List.setIfInBounds_toArray, List.set_cons_zero, List.set_cons_succ]))
  (refine Lw.take1 (i := 3) (v := ?_) rfl (by kernel_rfl) (by kernel_rfl) (by kernel_rfl) (fun _ _ _ h => h) (Or.inl ⟨by rfl, ?_⟩) (by assumption) ?_; rotate_left 1; (focus (intro wS hSw; obtain ⟨hS1, hS2, hS3, hS4⟩ := hSw; go_simp <;> with_reducible rfl)); (try simp only [Act.put, List.setIfInBounds_toArray, List.set_cons_zero, List.set_cons_succ]))
  (refine Lw.take1 (i := 5) (v := ?_) rfl (by kernel_rfl) (by kernel_rfl) (by kernel_rfl) (fun _ _ _ h => h) (Or.inl ⟨by rfl, ?_⟩) (by assumption) ?_; rotate_left 1; (focus (intro wS hSw; obtain ⟨hS1, hS2, hS3, hS4⟩ := hSw; go_simp <;> with_reducible rfl)); (try simp only [Act.put, List.setIfInBounds_toArray, List.set_cons_zero, List.set_cons_succ]))
  (refine Lw.take1 (i := 6) (v := ?_) rfl (by kernel_rfl) (by kernel_rfl) (by kernel_rfl) (fun _ _ _ h => h) (Or.inl ⟨by rfl, ?_⟩) (by assumption) ?_; rotate_left 1; (focus (intro wS hSw; obtain ⟨hS1, hS2, hS3, hS4⟩ := hSw; go_simp <;> with_reducible rfl)); (try simp only [Act.put, List.setIfInBounds_toArray, List.set_cons_zero, List.set_cons_succ]))
  (refine Lw.take1 (i := 7) (v := ?_) rfl (by kernel_rfl) (by kernel_rfl) (by kernel_rfl) (fun _ _ _ h => h) (Or.inl ⟨by rfl, ?_⟩) (by assumption) ?_; rotate_left 1; (focus (intro wS hSw; obtain ⟨hS1, hS2, hS3, hS4⟩ := hSw; go_simp <;> with_reducible rfl)); (try simp only [Act.put, List.setIfInBounds_toArray, List.set_cons_zero, List.set_cons_succ]))
  (refine Lw.take1 (i := 8) (v := ?_) rfl (by kernel_rfl) (by kernel_rfl) (by kernel_rfl) (fun _ _ _ h => h) (Or.inl ⟨by rfl, ?_⟩) (by assumption) ?_; rotate_left 1; (focus (intro wS hSw; obtain ⟨hS1, hS2, hS3, hS4⟩ := hSw; go_simp <;> with_reducible rfl)); (try simp only [Act.put, List.setIfInBounds_toArray, List.set_cons_zero, List.set_cons_succ]))
  (refine Lw.take1 (i := 10) (v := ?_) rfl (by kernel_rfl) (by kernel_rfl) (by kernel_rfl) (fun _ _ _ h => h) (Or.inl ⟨by rfl, ?_⟩) (by assumption) ?_; rotate_left 1; (focus (intro wS hSw; obtain ⟨hS1, hS2, hS3, hS4⟩ := hSw; go_simp <;> with_reducible rfl)); (try simp only [Act.put, List.setIfInBounds_toArray, List.set_cons_zero, List.set_cons_succ]))
  (refine Lw.take1 (i := 11) (v := ?_) rfl (by kernel_rfl) (by kernel_rfl) (by kernel_rfl) (fun _ _ _ h => h) (Or.inl ⟨by rfl, ?_⟩) (by assumption) ?_; rotate_left 1; (focus (intro wS hSw; obtain ⟨hS1, hS2, hS3, hS4⟩ := hSw; go_simp <;> with_reducible rfl)); (try simp only [Act.put, List.setIfInBounds_toArray, List.set_cons_zero, List.set_cons_succ]))
  (refine Lw.take1 (i := 12) (v := ?_) rfl (by kernel_rfl) (by kernel_rfl) (by kernel_rfl) (fun _ _ _ h => h) (Or.inl ⟨by rfl, ?_⟩) (by assumption) ?_; rotate_left 1; (focus (intro wS hSw; obtain ⟨hS1, hS2, hS3, hS4⟩ := hSw; go_simp <;> with_reducible rfl)); (try simp only [Act.put, List.setIfInBounds_toArray, List.set_cons_zero, List.set_cons_succ]))
  (refine Lw.take1 (i := 14) (v := ?_) rfl (by kernel_rfl) (by kernel_rfl) (by kernel_rfl) (fun _ _ _ h => h) (Or.inl ⟨by rfl, ?_⟩) (by assumption) ?_; rotate_left 1; (focus (intro wS hSw; obtain ⟨hS1, hS2, hS3, hS4⟩ := hSw; go_simp <;> with_reducible rfl)); (try simp only [Act.put, List.setIfInBounds_toArray, List.set_cons_zero, List.set_cons_succ]))
  (refine Lw.take1 (i := 15) (v := ?_) rfl (by kernel_rfl) (by kernel_rfl) (by kernel_rfl) (fun _ _ _ h => h) (Or.inl ⟨by rfl, ?_⟩) (by assumption) ?_; rotate_left 1; (focus (intro wS hSw; obtain ⟨hS1, hS2, hS3, hS4⟩ := hSw; go_simp <;> with_reducible rfl)); (try simp only [Act.put, List.setIfInBounds_toArray, List.set_cons_zero, List.set_cons_succ]))
  (refine Lw.take1 (i := 16) (v := ?_) rfl (by kernel_rfl) (by kernel_rfl) (by kernel_rfl) (fun _ _ _ h => h) (Or.inl ⟨by rfl, ?_⟩) (by assumption) ?_; rotate_left 1; (focus (intro wS hSw; obtain ⟨hS1, hS2, hS3, hS4⟩ := hSw; go_simp <;> with_reducible rfl)); (try simp only [Act.put, List.setIfInBounds_toArray, List.set_cons_zero, List.set_cons_succ]))
  (refine wpAnyH_ready (rs := [4]) (by kernel_rfl) (by simp) ?_; refine Lw.cons1 (i := 4) rfl (fun K hK => ?_) AllReadyH.nil; go_simp; go_at_call 48; (with_reducible refine (shake_shared_bad P Q G H k G E _ _ BE1.out E1_k hn).mono ?_); rintro e w2 ⟨rfl, hB2, hb2⟩; refine hK.out _ _ ?_ (fun hHeld => ?_); (focus exact Lw.sm_of ((Lw.sm_bel hS1).trans (hb2.mono z1))); clear hK K; (try simp only [Act.put, List.setIfInBounds_toArray, List.set_cons_zero, List.set_cons_succ]))
  have hS2 := Lw.sm_of ((Lw.sm_bel hS1).trans (hb2.mono z1))
  have BE2 := Lib.hid hB2
  clear hb2 hB2
  (refine wpAnyH_ready (rs := [9]) (by kernel_rfl) (by simp) ?_; refine Lw.cons1 (i := 9) rfl (fun K hK => ?_) AllReadyH.nil; go_simp; go_at_call 48; (with_reducible refine (SK.out a G _ _ BE2.out).mono ?_); rintro e wx ⟨rfl, rfl⟩; refine hK.out _ _ ?_ (fun hHeld => ?_); (focus exact hS2); clear hK K; (try simp only [Act.put, List.setIfInBounds_toArray, List.set_cons_zero, List.set_cons_succ]))
  (refine wpAnyH_ready (rs := [13]) (by kernel_rfl) (by simp) ?_; refine Lw.cons1 (i := 13) rfl (fun K hK => ?_) AllReadyH.nil; go_simp; go_at_call 48; (with_reducible refine (SK.out a x _ _ BE2.out).mono ?_); rintro e wx ⟨rfl, rfl⟩; refine hK.out _ _ ?_ (fun hHeld => ?_); (focus exact hS2); clear hK K; (try simp only [Act.put, List.setIfInBounds_toArray, List.set_cons_zero, List.set_cons_succ]))
  (refine wpAnyH_ready (rs := [17]) (by kernel_rfl) (by simp) ?_; refine Lw.cons1 (i := 17) rfl (fun K hK => ?_) AllReadyH.nil; go_simp; go_at_call 48; (with_reducible refine (SK.out k x _ _ BE2.out).mono ?_); rintro e wx ⟨rfl, rfl⟩; refine hK.out _ _ ?_ (fun hHeld => ?_); (focus exact hS2); clear hK K; (try simp only [Act.put, List.setIfInBounds_toArray, List.set_cons_zero, List.set_cons_succ]))
  (refine Lw.take1 (i := 18) (v := ?_) rfl (by kernel_rfl) (by kernel_rfl) (by kernel_rfl) (fun _ _ _ h => h) (Or.inl ⟨by rfl, ?_⟩) (by assumption) ?_; rotate_left 1; (focus (intro wS hSw; obtain ⟨hS1, hS2, hS3, hS4⟩ := hSw; go_simp <;> with_reducible rfl)); (try simp only [Act.put, List.setIfInBounds_toArray, List.set_cons_zero, List.set_cons_succ]))
  (refine Lw.take1 (i := 19) (v := ?_) rfl (by kernel_rfl) (by kernel_rfl) (by kernel_rfl) (fun _ _ _ h => h) (Or.inl ⟨by rfl, ?_⟩) (by assumption) ?_; rotate_left 1; (focus (intro wS hSw; obtain ⟨hS1, hS2, hS3, hS4⟩ := hSw; go_simp <;> with_reducible rfl)); (try simp only [Act.put, List.setIfInBounds_toArray, List.set_cons_zero, List.set_cons_succ]))
  (refine Lw.take1 (i := 20) (v := ?_) rfl (by kernel_rfl) (by kernel_rfl) (by kernel_rfl) (fun _ _ _ h => h) (Or.inl ⟨by rfl, ?_⟩) (by assumption) ?_; rotate_left 1; (focus (intro wS hSw; obtain ⟨hS1, hS2, hS3, hS4⟩ := hSw; go_simp <;> with_reducible rfl)); (try simp only [Act.put, List.setIfInBounds_toArray, List.set_cons_zero, List.set_cons_succ]))
  (refine Lw.take1 (i := 21) (v := ?_) rfl (by kernel_rfl) (by kernel_rfl) (by kernel_rfl) (fun _ _ _ h => h) (Or.inl ⟨by rfl, ?_⟩) (by assumption) ?_; rotate_left 1; (focus (intro wS hSw; obtain ⟨hS1, hS2, hS3, hS4⟩ := hSw; go_simp <;> with_reducible rfl)); (try simp only [Act.put, List.setIfInBounds_toArray, List.set_cons_zero, List.set_cons_succ]))
  refine wpAnyH_done (by kernel_rfl) ?_ _
  clear hHeld m0 m1 m2 m3
  have hB9 := Lw.bt hBW (Lw.sm_bel hS2)
  have c5 := Lw.blk_cell BE2.out 4
  have B19 := Lib.hid (((Lw.sm_bel hS2).block _ g1).trans B1.out)
  have l0 := Lw.blk_cell B19.out 0; have l1 := Lw.blk_cell B19.out 1; have l2 := Lw.blk_cell B19.out 2; have fr := fun i => Lw.blk_free B19.out i
  simp at c5 l0 l1 l2
  go_wp2
  (try simp only [World.frozen?_drew] at fr)
  refine wp_region_held_drew (S := fun w' => w'.cell? ⟨w.heap.size + 1 + 1, 4, none⟩ = some (.int .i64 E)) (by kernel_rfl) (by exact c5) (fun hHeld => ?_)
  refine Lw.take1 (i := 0) (v := ?_) rfl (by kernel_rfl) (by kernel_rfl) (by kernel_rfl) (fun _ _ _ h => h) (Or.inl ⟨by rfl, ?_⟩) (by assumption) ?_
  rotate_left 1
  · (intro wS hSw; (try dsimp only at hSw); go_simp <;> with_reducible rfl)
  (try simp only [Act.put, List.setIfInBounds_toArray, List.set_cons_zero, List.set_cons_succ])
  refine Lw.take1 (i := 1) (v := ?_) rfl (by kernel_rfl) (by kernel_rfl) (by kernel_rfl) (fun _ _ _ h => h) (Or.inl ⟨by rfl, ?_⟩) (by assumption) ?_
  rotate_left 1
  · (intro wS hSw; (try dsimp only at hSw); go_simp <;> with_reducible rfl)
  (try simp only [Act.put, List.setIfInBounds_toArray, List.set_cons_zero, List.set_cons_succ])
  refine Lw.take1 (i := 2) (v := ?_) rfl (by kernel_rfl) (by kernel_rfl) (by kernel_rfl) (fun _ _ _ h => h) (Or.inl ⟨by rfl, ?_⟩) (by assumption) ?_
  rotate_left 1
  · (intro wS hSw; (try dsimp only at hSw); go_simp <;> with_reducible rfl)
  (try simp only [Act.put, List.setIfInBounds_toArray, List.set_cons_zero, List.set_cons_succ])
  refine Lw.take1 (i := 3) (v := ?_) rfl (by kernel_rfl) (by kernel_rfl) (by kernel_rfl) (fun _ _ _ h => h) (Or.inl ⟨by rfl, ?_⟩) (by assumption) ?_
  rotate_left 1
  · (intro wS hSw; (try dsimp only at hSw); go_simp <;> with_reducible rfl)
  (try simp only [Act.put, List.setIfInBounds_toArray, List.set_cons_zero, List.set_cons_succ])
  refine Lw.take1 (i := 4) (v := ?_) rfl (by kernel_rfl) (by kernel_rfl) (by kernel_rfl) (fun _ _ _ h => h) (Or.inl ⟨by rfl, ?_⟩) (by assumption) ?_
  rotate_left 1
  · (intro wS hSw; (try dsimp only at hSw); go_simp <;> with_reducible rfl)
  (try simp only [Act.put, List.setIfInBounds_toArray, List.set_cons_zero, List.set_cons_succ])
  (refine wpAnyH_ready (rs := [5]) (by kernel_rfl) (by simp) ?_; refine Lw.cons1 (i := 5) rfl (fun K hK => ?_) AllReadyH.nil; go_simp; refine hK.out _ _ ?_ (fun hHeld => ?_); (focus exact (by have := Lw.cell_far3 (x := .int .i64 0) (y := .int .i64 0) (z := .int .i64 0) (b := w.heap.size + 1) (by omega) c5; simpa using this)); clear hK K; (try simp only [Act.put, List.setIfInBounds_toArray, List.set_cons_zero, List.set_cons_succ]))
  refine Lw.take1 (i := 6) (v := ?_) rfl (by kernel_rfl) (by kernel_rfl) (by kernel_rfl) (fun _ _ _ h => h) (Or.inl ⟨by rfl, ?_⟩) (by assumption) ?_
  rotate_left 1
  · (intro wS hSw; (try dsimp only at hSw); go_simp <;> with_reducible rfl)
  (try simp only [Act.put, List.setIfInBounds_toArray, List.set_cons_zero, List.set_cons_succ])
  refine wpAnyH_done (by kernel_rfl) ?_ _
  go_wp2
  refine bodyPost_ret (v := .tuple #[.agg #[.int .i64 0, .int .i64 0, .int .i64 0], .int .i64 E]) (by simp [results, Try.results31, go_sem, l0, l1, l2]) rfl ⟨rfl, ?_⟩
  (repeat with_reducible refine Below.drew ?_)
  exact Lw.bset (Lw.bset (Lw.bset hB9 (by simp) _) (by simp) _) (by simp) _
set_option maxHeartbeats 4000000 in
theorem shake_Answer_bad3 (P Q G H a k x E : Int) (w : World) (E1_a : Lw.askE P Q G H [a] [G] = 0) (E1_k : Lw.askE P Q G H [k] [G] = 0) (E1_ax : Lw.askE P Q G H [a] [x] = E) (hn : (E != 0) = true) :
    Calls Try.prog 31 #[.agg #[.int .i64 P, .int .i64 Q, .int .i64 G, .int .i64 H], .int .i64 a, .int .i64 k, .int .i64 x] w fun e w' => e = .returned (.tuple #[.agg #[.int .i64 0, .int .i64 0, .int .i64 0], .int .i64 E]) ∧ Below w.heap.size w w' := by
  obtain ⟨W0, hW0⟩ : ∃ W, (w.alloc (.cells #[.int .i64 P, .int .i64 Q, .int .i64 G, .int .i64 H] 23)).alloc (.cells #[.int .i64 0, .int .i64 0, .int .i64 0] 52) = W := ⟨_, rfl⟩
  have B0 := Lib.hid (show W0.heap[w.heap.size]? = some (.cells #[.int .i64 P, .int .i64 Q, .int .i64 G, .int .i64 H] 23 (0, 0)) from hW0 ▸ Lw.blk_alloc (Lw.blk_new _ _ _) _)
  have B1 := Lib.hid (show W0.heap[w.heap.size + 1]? = some (.cells #[.int .i64 0, .int .i64 0, .int .i64 0] 52 (0, 0)) from hW0 ▸ Lw.blk_new' (by simp) _ _)
  have hBW : Below w.heap.size w W0 := by rw [← hW0]; (repeat (first | exact Below.refl _ _ | refine Lw.bt ?_ (by assumption) | refine Lw.balloc ?_ _ | refine Lw.bdrewN ?_ _ | refine Below.drew ?_ | refine Lw.bset ?_ (by first | (simp; done) | (simp; omega) | omega) _))
  have z1 : W0.heap.size ≤ w.heap.size + 1 + 1 := by rw [← hW0]; simp
  have z2 : w.heap.size + 1 + 1 ≤ W0.heap.size := by rw [← hW0]; simp
  have HZ : Hid (W0.heap.size = w.heap.size + 1 + 1) := by show _ = _; omega
  have HW0 := Lib.hid hW0
  clear hW0
  have g0 : w.heap.size < W0.heap.size := by omega
  have g1 : w.heap.size + 1 < W0.heap.size := by omega
  have m0 := Lw.blk_cell B0.out 0; have m1 := Lw.blk_cell B0.out 1; have m2 := Lw.blk_cell B0.out 2; have m3 := Lw.blk_cell B0.out 3
  simp at m0 m1 m2 m3

  have SK := Lib.hid (fun (k x : Int) (b : Nat) (w : World) hb => shake_shared_skip P Q G H k x E b w hb hn)
  go_enter Try.func31, Try.ntmps31
  go_wp2_with fail
  rw [HW0.out]
  have hS0 : Lw.Sm W0 (W0.alloc (.cells #[.int .i64 P, .int .i64 Q, .int .i64 G, .int .i64 H, .int .i64 0] 89)) := Lw.sm_of (Lw.balloc (Below.refl _ _) _)
  have BE0 := Lib.hid (Lw.blk_new' HZ.out #[.int .i64 P, .int .i64 Q, .int .i64 G, .int .i64 H, .int .i64 0] 89)
  refine (shake_shared_ok P Q G H a G _ _ BE0.out E1_a).mono ?_
  rintro e w1 ⟨rfl, hb1⟩
  have hS1 := Lw.sm_keep hS0 hb1
  have BE1 := Lib.hid ((hb1.block _ (Lw.blk_lt BE0.out)).trans BE0.out)
  clear hb1
  go_wp2
  have hS1o := hS1
  have hS1 := Lw.sm_drew' hS1
  have BE1 := Lib.hid (Lw.blk_drew BE1.out)
  refine wp_region_held_drew (S := Lw.Sm W0) (by kernel_rfl) hS1 (fun hHeld => ?_)
  (refine Lw.take1 (i := 0) (v := ?_) rfl (by kernel_rfl) (by kernel_rfl) (by kernel_rfl) (fun _ _ _ h => h) (Or.inl ⟨by rfl, ?_⟩) (by assumption) ?_; rotate_left 1; (focus (intro wS hSw; obtain ⟨hS1, hS2, hS3, hS4⟩ := hSw; go_simp <;> with_reducible rfl)); (try simp only [Act.put, List.setIfInBounds_toArray, List.set_cons_zero, List.set_cons_succ]))
  (refine Lw.take1 (i := 1) (v := ?_) rfl (by kernel_rfl) (by kernel_rfl) (by kernel_rfl) (fun _ _ _ h => h) (Or.inl ⟨by rfl, ?_⟩) (by assumption) ?_; rotate_left 1; (focus (intro wS hSw; obtain ⟨hS1, hS2, hS3, hS4⟩ := hSw; go_simp <;> with_reducible rfl)); (try simp only [Act.put, List.setIfInBounds_toArray, List.set_cons_zero, List.set_cons_succ]))
  (refine Lw.take1 (i := 2) (v := ?_) rfl (by kernel_rfl) (by kernel_rfl) (by kernel_rfl) (fun _ _ _ h => h) (Or.inl ⟨by rfl, ?_⟩) (by assumption) ?_; rotate_left 1; (focus (intro wS hSw; obtain ⟨hS1, hS2, hS3, hS4⟩ := hSw; go_simp <;> with_reducible rfl)); (try simp only [Act.put, List.setIfInBounds_toArray, List.set_cons_zero, List.set_cons_succ]))
  (refine Lw.take1 (i := 3) (v := ?_) rfl (by kernel_rfl) (by kernel_rfl) (by kernel_rfl) (fun _ _ _ h => h) (Or.inl ⟨by rfl, ?_⟩) (by assumption) ?_; rotate_left 1; (focus (intro wS hSw; obtain ⟨hS1, hS2, hS3, hS4⟩ := hSw; go_simp <;> with_reducible rfl)); (try simp only [Act.put, List.setIfInBounds_toArray, List.set_cons_zero, List.set_cons_succ]))
  (refine Lw.take1 (i := 5) (v := ?_) rfl (by kernel_rfl) (by kernel_rfl) (by kernel_rfl) (fun _ _ _ h => h) (Or.inl ⟨by rfl, ?_⟩) (by assumption) ?_; rotate_left 1; (focus (intro wS hSw; obtain ⟨hS1, hS2, hS3, hS4⟩ := hSw; go_simp <;> with_reducible rfl)); (try simp only [Act.put, List.setIfInBounds_toArray, List.set_cons_zero, List.set_cons_succ]))
  (refine Lw.take1 (i := 6) (v := ?_) rfl (by kernel_rfl) (by kernel_rfl) (by kernel_rfl) (fun _ _ _ h => h) (Or.inl ⟨by rfl, ?_⟩) (by assumption) ?_; rotate_left 1; (focus (intro wS hSw; obtain ⟨hS1, hS2, hS3, hS4⟩ := hSw; go_simp <;> with_reducible rfl)); (try simp only [Act.put, List.setIfInBounds_toArray, List.set_cons_zero, List.set_cons_succ]))
  (refine Lw.take1 (i := 7) (v := ?_) rfl (by kernel_rfl) (by kernel_rfl) (by kernel_rfl) (fun _ _ _ h => h) (Or.inl ⟨by rfl, ?_⟩) (by assumption) ?_; rotate_left 1; (focus (intro wS hSw; obtain ⟨hS1, hS2, hS3, hS4⟩ := hSw; go_simp <;> with_reducible rfl)); (try simp only [Act.put, List.setIfInBounds_toArray, List.set_cons_zero, List.set_cons_succ]))
  (refine Lw.take1 (i := 8) (v := ?_) rfl (by kernel_rfl) (by kernel_rfl) (by kernel_rfl) (fun _ _ _ h => h) (Or.inl ⟨by rfl, ?_⟩) (by assumption) ?_; rotate_left 1; (focus (intro wS hSw; obtain ⟨hS1, hS2, hS3, hS4⟩ := hSw; go_simp <;> with_reducible rfl)); (try simp only [Act.put, List.setIfInBounds_toArray, List.set_cons_zero, List.set_cons_succ]))
  (refine Lw.take1 (i := 10) (v := ?_) rfl (by kernel_rfl) (by kernel_rfl) (by kernel_rfl) (fun _ _ _ h => h) (Or.inl ⟨by rfl, ?_⟩) (by assumption) ?_; rotate_left 1; (focus (intro wS hSw; obtain ⟨hS1, hS2, hS3, hS4⟩ := hSw; go_simp <;> with_reducible rfl)); (try simp only [Act.put, List.setIfInBounds_toArray, List.set_cons_zero, List.set_cons_succ]))
  (refine Lw.take1 (i := 11) (v := ?_) rfl (by kernel_rfl) (by kernel_rfl) (by kernel_rfl) (fun _ _ _ h => h) (Or.inl ⟨by rfl, ?_⟩) (by assumption) ?_; rotate_left 1; (focus (intro wS hSw; obtain ⟨hS1, hS2, hS3, hS4⟩ := hSw; go_simp <;> with_reducible rfl)); (try simp only [Act.put, List.setIfInBounds_toArray, List.set_cons_zero, List.set_cons_succ]))
  (refine Lw.take1 (i := 12) (v := ?_) rfl (by kernel_rfl) (by kernel_rfl) (by kernel_rfl) (fun _ _ _ h => h) (Or.inl ⟨by rfl, ?_⟩) (by assumption) ?_; rotate_left 1; (focus (intro wS hSw; obtain ⟨hS1, hS2, hS3, hS4⟩ := hSw; go_simp <;> with_reducible rfl)); (try simp only [Act.put, List.setIfInBounds_toArray, List.set_cons_zero, List.set_cons_succ]))
  (refine Lw.take1 (i := 14) (v := ?_) rfl (by kernel_rfl) (by kernel_rfl) (by kernel_rfl) (fun _ _ _ h => h) (Or.inl ⟨by rfl, ?_⟩) (by assumption) ?_; rotate_left 1; (focus (intro wS hSw; obtain ⟨hS1, hS2, hS3, hS4⟩ := hSw; go_simp <;> with_reducible rfl)); (try simp only [Act.put, List.setIfInBounds_toArray, List.set_cons_zero, List.set_cons_succ]))
  (refine Lw.take1 (i := 15) (v := ?_) rfl (by kernel_rfl) (by kernel_rfl) (by kernel_rfl) (fun _ _ _ h => h) (Or.inl ⟨by rfl, ?_⟩) (by assumption) ?_; rotate_left 1; (focus (intro wS hSw; obtain ⟨hS1, hS2, hS3, hS4⟩ := hSw; go_simp <;> with_reducible rfl)); (try simp only [Act.put, List.setIfInBounds_toArray, List.set_cons_zero, List.set_cons_succ]))
  (refine Lw.take1 (i := 16) (v := ?_) rfl (by kernel_rfl) (by kernel_rfl) (by kernel_rfl) (fun _ _ _ h => h) (Or.inl ⟨by rfl, ?_⟩) (by assumption) ?_; rotate_left 1; (focus (intro wS hSw; obtain ⟨hS1, hS2, hS3, hS4⟩ := hSw; go_simp <;> with_reducible rfl)); (try simp only [Act.put, List.setIfInBounds_toArray, List.set_cons_zero, List.set_cons_succ]))
  (refine wpAnyH_ready (rs := [4]) (by kernel_rfl) (by simp) ?_; refine Lw.cons1 (i := 4) rfl (fun K hK => ?_) AllReadyH.nil; go_simp; go_at_call 48; (with_reducible refine (shake_shared_ok P Q G H k G _ _ BE1.out E1_k).mono ?_); rintro e w2 ⟨rfl, hb2⟩; refine hK.out _ _ ?_ (fun hHeld => ?_); (focus exact Lw.sm_keep hS1 hb2); clear hK K; (try simp only [Act.put, List.setIfInBounds_toArray, List.set_cons_zero, List.set_cons_succ]))
  have hS2 := Lw.sm_keep hS1 hb2
  have BE2 := Lib.hid ((hb2.block _ (Lw.blk_lt BE1.out)).trans BE1.out)
  clear hb2
  (refine wpAnyH_ready (rs := [9]) (by kernel_rfl) (by simp) ?_; refine Lw.cons1 (i := 9) rfl (fun K hK => ?_) AllReadyH.nil; go_simp; go_at_call 48; (with_reducible refine (shake_shared_ok P Q G H a G _ _ BE2.out E1_a).mono ?_); rintro e w3 ⟨rfl, hb3⟩; refine hK.out _ _ ?_ (fun hHeld => ?_); (focus exact Lw.sm_keep hS2 hb3); clear hK K; (try simp only [Act.put, List.setIfInBounds_toArray, List.set_cons_zero, List.set_cons_succ]))
  have hS3 := Lw.sm_keep hS2 hb3
  have BE3 := Lib.hid ((hb3.block _ (Lw.blk_lt BE2.out)).trans BE2.out)
  clear hb3
  (refine wpAnyH_ready (rs := [13]) (by kernel_rfl) (by simp) ?_; refine Lw.cons1 (i := 13) rfl (fun K hK => ?_) AllReadyH.nil; go_simp; go_at_call 48; (with_reducible refine (shake_shared_bad P Q G H a x E _ _ BE3.out E1_ax hn).mono ?_); rintro e w4 ⟨rfl, hB4, hb4⟩; refine hK.out _ _ ?_ (fun hHeld => ?_); (focus exact Lw.sm_of ((Lw.sm_bel hS3).trans (hb4.mono z1))); clear hK K; (try simp only [Act.put, List.setIfInBounds_toArray, List.set_cons_zero, List.set_cons_succ]))
  have hS4 := Lw.sm_of ((Lw.sm_bel hS3).trans (hb4.mono z1))
  have BE4 := Lib.hid hB4
  clear hb4 hB4
  (refine wpAnyH_ready (rs := [17]) (by kernel_rfl) (by simp) ?_; refine Lw.cons1 (i := 17) rfl (fun K hK => ?_) AllReadyH.nil; go_simp; go_at_call 48; (with_reducible refine (SK.out k x _ _ BE4.out).mono ?_); rintro e wx ⟨rfl, rfl⟩; refine hK.out _ _ ?_ (fun hHeld => ?_); (focus exact hS4); clear hK K; (try simp only [Act.put, List.setIfInBounds_toArray, List.set_cons_zero, List.set_cons_succ]))
  (refine Lw.take1 (i := 18) (v := ?_) rfl (by kernel_rfl) (by kernel_rfl) (by kernel_rfl) (fun _ _ _ h => h) (Or.inl ⟨by rfl, ?_⟩) (by assumption) ?_; rotate_left 1; (focus (intro wS hSw; obtain ⟨hS1, hS2, hS3, hS4⟩ := hSw; go_simp <;> with_reducible rfl)); (try simp only [Act.put, List.setIfInBounds_toArray, List.set_cons_zero, List.set_cons_succ]))
  (refine Lw.take1 (i := 19) (v := ?_) rfl (by kernel_rfl) (by kernel_rfl) (by kernel_rfl) (fun _ _ _ h => h) (Or.inl ⟨by rfl, ?_⟩) (by assumption) ?_; rotate_left 1; (focus (intro wS hSw; obtain ⟨hS1, hS2, hS3, hS4⟩ := hSw; go_simp <;> with_reducible rfl)); (try simp only [Act.put, List.setIfInBounds_toArray, List.set_cons_zero, List.set_cons_succ]))
  (refine Lw.take1 (i := 20) (v := ?_) rfl (by kernel_rfl) (by kernel_rfl) (by kernel_rfl) (fun _ _ _ h => h) (Or.inl ⟨by rfl, ?_⟩) (by assumption) ?_; rotate_left 1; (focus (intro wS hSw; obtain ⟨hS1, hS2, hS3, hS4⟩ := hSw; go_simp <;> with_reducible rfl)); (try simp only [Act.put, List.setIfInBounds_toArray, List.set_cons_zero, List.set_cons_succ]))
  (refine Lw.take1 (i := 21) (v := ?_) rfl (by kernel_rfl) (by kernel_rfl) (by kernel_rfl) (fun _ _ _ h => h) (Or.inl ⟨by rfl, ?_⟩) (by assumption) ?_; rotate_left 1; (focus (intro wS hSw; obtain ⟨hS1, hS2, hS3, hS4⟩ := hSw; go_simp <;> with_reducible rfl)); (try simp only [Act.put, List.setIfInBounds_toArray, List.set_cons_zero, List.set_cons_succ]))
  refine wpAnyH_done (by kernel_rfl) ?_ _
  clear hHeld m0 m1 m2 m3
  have hB9 := Lw.bt hBW (Lw.sm_bel hS4)
  have c5 := Lw.blk_cell BE4.out 4
  have B19 := Lib.hid (((Lw.sm_bel hS4).block _ g1).trans B1.out)
  have l0 := Lw.blk_cell B19.out 0; have l1 := Lw.blk_cell B19.out 1; have l2 := Lw.blk_cell B19.out 2; have fr := fun i => Lw.blk_free B19.out i
  simp at c5 l0 l1 l2
  go_wp2
  (try simp only [World.frozen?_drew] at fr)
  refine wp_region_held_drew (S := fun w' => w'.cell? ⟨w.heap.size + 1 + 1, 4, none⟩ = some (.int .i64 E)) (by kernel_rfl) (by exact c5) (fun hHeld => ?_)
  refine Lw.take1 (i := 0) (v := ?_) rfl (by kernel_rfl) (by kernel_rfl) (by kernel_rfl) (fun _ _ _ h => h) (Or.inl ⟨by rfl, ?_⟩) (by assumption) ?_
  rotate_left 1
  · (intro wS hSw; (try dsimp only at hSw); go_simp <;> with_reducible rfl)
  (try simp only [Act.put, List.setIfInBounds_toArray, List.set_cons_zero, List.set_cons_succ])
  refine Lw.take1 (i := 1) (v := ?_) rfl (by kernel_rfl) (by kernel_rfl) (by kernel_rfl) (fun _ _ _ h => h) (Or.inl ⟨by rfl, ?_⟩) (by assumption) ?_
  rotate_left 1
  · (intro wS hSw; (try dsimp only at hSw); go_simp <;> with_reducible rfl)
  (try simp only [Act.put, List.setIfInBounds_toArray, List.set_cons_zero, List.set_cons_succ])
  refine Lw.take1 (i := 2) (v := ?_) rfl (by kernel_rfl) (by kernel_rfl) (by kernel_rfl) (fun _ _ _ h => h) (Or.inl ⟨by rfl, ?_⟩) (by assumption) ?_
  rotate_left 1
  · (intro wS hSw; (try dsimp only at hSw); go_simp <;> with_reducible rfl)
  (try simp only [Act.put, List.setIfInBounds_toArray, List.set_cons_zero, List.set_cons_succ])
  refine Lw.take1 (i := 3) (v := ?_) rfl (by kernel_rfl) (by kernel_rfl) (by kernel_rfl) (fun _ _ _ h => h) (Or.inl ⟨by rfl, ?_⟩) (by assumption) ?_
  rotate_left 1
  · (intro wS hSw; (try dsimp only at hSw); go_simp <;> with_reducible rfl)
  (try simp only [Act.put, List.setIfInBounds_toArray, List.set_cons_zero, List.set_cons_succ])
  refine Lw.take1 (i := 4) (v := ?_) rfl (by kernel_rfl) (by kernel_rfl) (by kernel_rfl) (fun _ _ _ h => h) (Or.inl ⟨by rfl, ?_⟩) (by assumption) ?_
  rotate_left 1
  · (intro wS hSw; (try dsimp only at hSw); go_simp <;> with_reducible rfl)
  (try simp only [Act.put, List.setIfInBounds_toArray, List.set_cons_zero, List.set_cons_succ])
  (refine wpAnyH_ready (rs := [5]) (by kernel_rfl) (by simp) ?_; refine Lw.cons1 (i := 5) rfl (fun K hK => ?_) AllReadyH.nil; go_simp; refine hK.out _ _ ?_ (fun hHeld => ?_); (focus exact (by have := Lw.cell_far3 (x := .int .i64 0) (y := .int .i64 0) (z := .int .i64 0) (b := w.heap.size + 1) (by omega) c5; simpa using this)); clear hK K; (try simp only [Act.put, List.setIfInBounds_toArray, List.set_cons_zero, List.set_cons_succ]))
  refine Lw.take1 (i := 6) (v := ?_) rfl (by kernel_rfl) (by kernel_rfl) (by kernel_rfl) (fun _ _ _ h => h) (Or.inl ⟨by rfl, ?_⟩) (by assumption) ?_
  rotate_left 1
  · (intro wS hSw; (try dsimp only at hSw); go_simp <;> with_reducible rfl)
  (try simp only [Act.put, List.setIfInBounds_toArray, List.set_cons_zero, List.set_cons_succ])
  refine wpAnyH_done (by kernel_rfl) ?_ _
  go_wp2
  refine bodyPost_ret (v := .tuple #[.agg #[.int .i64 0, .int .i64 0, .int .i64 0], .int .i64 E]) (by simp [results, Try.results31, go_sem, l0, l1, l2]) rfl ⟨rfl, ?_⟩
  (repeat with_reducible refine Below.drew ?_)
  exact Lw.bset (Lw.bset (Lw.bset hB9 (by simp) _) (by simp) _) (by simp) _
theorem shake_Answer_bad (P Q G H a k x E : Int) (w : World) (hE : Lw.askE P Q G H [a, k] [x] = E) (hn : (E != 0) = true) :
    Calls Try.prog 31 #[.agg #[.int .i64 P, .int .i64 Q, .int .i64 G, .int .i64 H], .int .i64 a, .int .i64 k, .int .i64 x] w fun e w' => e = .returned (.tuple #[.agg #[.int .i64 0, .int .i64 0, .int .i64 0], .int .i64 E]) ∧ Below w.heap.size w w' := by
  rcases Lw.ans_bad hE (by simpa using hn) with h | ⟨h1, h2⟩ | ⟨h1, h2, h3⟩
  · exact shake_Answer_bad1 P Q G H a k x E w h hn
  · exact shake_Answer_bad2 P Q G H a k x E w h1 h2 hn
  · exact shake_Answer_bad3 P Q G H a k x E w h1 h2 h3 hn
end Go.Proofs.Ytkjcpjbdckbjcaa

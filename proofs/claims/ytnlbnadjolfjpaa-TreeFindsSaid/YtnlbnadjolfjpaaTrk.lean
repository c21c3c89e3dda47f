/- tree.Clash walked. Printed by a small program of mine (gentrk.py). -/
import Derived.Test.YtnlbnadjolfjpaaTrj
namespace Lw
open Go Go.RowKit
def ClsR (x y : List Int) (w : World) (e : Ending) (w' : World) : Prop := ∃ A n c B m d, e = .returned (.tuple #[.slice A n c, .slice B m d, .int .i64 0]) ∧ Rd w' 1 A n (intsV .u8 x) ∧ Rd w' 1 B m (intsV .u8 y) ∧ Below w.heap.size w w'
end Lw
set_option linter.unusedVariables false
set_option linter.unusedSimpArgs false
namespace Go.Proofs.Ytnlbnadjolfjpaa
open Go.RowKit
set_option maxRecDepth 100000 in
set_option maxHeartbeats 4000000 in
theorem tree_Clash_bad (n i : Int) (A B A' B' : Option Addr) (l k l' k' c d c' d' : Nat) (w : World) (h : ¬ Lw.firstI (Lw.plcE n i l k) (Lw.plcE n i l' k') = 0) :
    Calls Try.prog 28 #[.int .i64 n, .int .i64 i, .slice A l c, .slice B k d, .slice A' l' c', .slice B' k' d'] w fun e w' => e = .returned (.tuple #[.slice none 0 0, .slice none 0 0, .int .i64 (Lw.firstI (Lw.plcE n i l k) (Lw.plcE n i l' k'))]) ∧ Below w.heap.size w w' := by
  have X1 := Lib.hid (fun w => place_wrong n i A B l k c d w)
  have X2 := Lib.hid (fun w => place_wrong n i A' B' l' k' c' d' w)
  have E : (¬ Lw.plcE n i l k = 0 ∧ Hid (Lw.firstI (Lw.plcE n i l k) (Lw.plcE n i l' k') = Lw.plcE n i l k)) ∨ (Lw.plcE n i l k = 0 ∧ ¬ Lw.plcE n i l' k' = 0 ∧ Hid (Lw.firstI (Lw.plcE n i l k) (Lw.plcE n i l' k') = Lw.plcE n i l' k')) := by
    by_cases h0 : Lw.plcE n i l k = 0
    · refine .inr ⟨h0, fun h1 => h (by rw [h0, Lw.firstI_zero, h1]), ?_⟩
      show _ = _
      rw [h0, Lw.firstI_zero]
    · exact .inl ⟨h0, Lw.firstI_ne _ _ h0⟩
  generalize Lw.firstI (Lw.plcE n i l k) (Lw.plcE n i l' k') = V at *
  generalize Lw.plcE n i l k = v1 at *
  generalize Lw.plcE n i l' k' = v2 at *
  obtain ⟨W, hW⟩ : ∃ W, w.alloc (.cells #[.int .i64 n, .int .i64 i] 81) = W := ⟨_, rfl⟩
  have B0 := Lib.hid (show W.heap[w.heap.size]? = some (.cells #[.int .i64 n, .int .i64 i] 81 (0, 0)) from hW ▸ Lw.blk_new _ _ _)
  have hBW : Below w.heap.size w W := by rw [← hW]; exact Lw.balloc (Below.refl _ _) _
  have hWs : w.heap.size < W.heap.size := by rw [← hW]; simp
  have l0 := Lw.blk_cell B0.out 0
  have l1 := Lw.blk_cell B0.out 1
  simp at l0 l1
  have HW := Lib.hid hW
  have I0 := fun W => Lw.run_index_arr (P := Try.prog) (k := .i64) (cs := #[.int .i64 v1, .int .i64 v2]) Try.underlying94 Try.underlying23 (by kernel_rfl) 0 (by decide) rfl W
  have I1 := fun W => Lw.run_index_arr (P := Try.prog) (k := .i64) (cs := #[.int .i64 v1, .int .i64 v2]) Try.underlying94 Try.underlying23 (by kernel_rfl) 1 (by decide) rfl W
  simp only [Int.natCast_zero, show ((1 : Nat) : Int) = 1 from rfl] at I0 I1
  clear hW h
  rcases E with ⟨h1, E⟩ | ⟨h0, h1, E⟩
  · have z1 : (v1 != 0) = true := by simpa using h1
    clear h1
    go_enter Try.func28, Try.ntmps28
    go_wp2_with fail
    rw [HW.out]
    go_wp2_with fail
    refine wp_region_held_drew (S := Lw.Sm W) (by kernel_rfl) (Lw.sm_drew W) (fun hHeld => ?_)
    (refine Lw.take1 (i := 0) (v := ?_) rfl (by kernel_rfl) (by kernel_rfl) (by kernel_rfl) (fun _ _ _ h => h) (Or.inl ⟨by rfl, ?_⟩) (by assumption) ?_; rotate_left 1; (focus (intro wS hSw; obtain ⟨hS1, hS2, hS3, hS4⟩ := hSw; go_simp <;> with_reducible rfl)); (try simp only [Act.put, List.setIfInBounds_toArray, List.set_cons_zero, List.set_cons_succ]))
    (refine Lw.take1 (i := 1) (v := ?_) rfl (by kernel_rfl) (by kernel_rfl) (by kernel_rfl) (fun _ _ _ h => h) (Or.inl ⟨by rfl, ?_⟩) (by assumption) ?_; rotate_left 1; (focus (intro wS hSw; obtain ⟨hS1, hS2, hS3, hS4⟩ := hSw; go_simp <;> with_reducible rfl)); (try simp only [Act.put, List.setIfInBounds_toArray, List.set_cons_zero, List.set_cons_succ]))
    (refine Lw.take1 (i := 2) (v := ?_) rfl (by kernel_rfl) (by kernel_rfl) (by kernel_rfl) (fun _ _ _ h => h) (Or.inl ⟨by rfl, ?_⟩) (by assumption) ?_; rotate_left 1; (focus (intro wS hSw; obtain ⟨hS1, hS2, hS3, hS4⟩ := hSw; go_simp <;> with_reducible rfl)); (try simp only [Act.put, List.setIfInBounds_toArray, List.set_cons_zero, List.set_cons_succ]))
    (refine Lw.take1 (i := 4) (v := ?_) rfl (by kernel_rfl) (by kernel_rfl) (by kernel_rfl) (fun _ _ _ h => h) (Or.inl ⟨by rfl, ?_⟩) (by assumption) ?_; rotate_left 1; (focus (intro wS hSw; obtain ⟨hS1, hS2, hS3, hS4⟩ := hSw; go_simp <;> with_reducible rfl)); (try simp only [Act.put, List.setIfInBounds_toArray, List.set_cons_zero, List.set_cons_succ]))
    (refine Lw.take1 (i := 5) (v := ?_) rfl (by kernel_rfl) (by kernel_rfl) (by kernel_rfl) (fun _ _ _ h => h) (Or.inl ⟨by rfl, ?_⟩) (by assumption) ?_; rotate_left 1; (focus (intro wS hSw; obtain ⟨hS1, hS2, hS3, hS4⟩ := hSw; go_simp <;> with_reducible rfl)); (try simp only [Act.put, List.setIfInBounds_toArray, List.set_cons_zero, List.set_cons_succ]))
    (refine Lw.take1 (i := 6) (v := ?_) rfl (by kernel_rfl) (by kernel_rfl) (by kernel_rfl) (fun _ _ _ h => h) (Or.inl ⟨by rfl, ?_⟩) (by assumption) ?_; rotate_left 1; (focus (intro wS hSw; obtain ⟨hS1, hS2, hS3, hS4⟩ := hSw; go_simp <;> with_reducible rfl)); (try simp only [Act.put, List.setIfInBounds_toArray, List.set_cons_zero, List.set_cons_succ]))
    (refine Lw.take1 (i := 9) (v := ?_) rfl (by kernel_rfl) (by kernel_rfl) (by kernel_rfl) (fun _ _ _ h => h) (Or.inl ⟨by rfl, ?_⟩) (by assumption) ?_; rotate_left 1; (focus (intro wS hSw; obtain ⟨hS1, hS2, hS3, hS4⟩ := hSw; go_simp <;> with_reducible rfl)); (try simp only [Act.put, List.setIfInBounds_toArray, List.set_cons_zero, List.set_cons_succ]))
    (refine wpAnyH_ready (rs := [3]) (by kernel_rfl) (by simp) ?_; refine Lw.cons1 (i := 3) rfl (fun K hK => ?_) AllReadyH.nil; go_simp; go_at_call 43; (with_reducible refine (X1.out _).mono ?_); rintro e w1 ⟨rfl, hb1⟩; refine hK.out _ _ ?_ (fun hHeld => ?_); (focus exact Lw.sm_keep (Lw.sm_drew W) hb1); clear hK K; (try simp only [Act.put, List.setIfInBounds_toArray, List.set_cons_zero, List.set_cons_succ]))
    have hS := Lw.sm_keep (Lw.sm_drew W) hb1
    (refine wpAnyH_ready (rs := [7]) (by kernel_rfl) (by simp) ?_; refine Lw.cons1 (i := 7) rfl (fun K hK => ?_) AllReadyH.nil; go_simp; go_at_call 43; (with_reducible refine (X2.out _).mono ?_); rintro e w2 ⟨rfl, hb2⟩; refine hK.out _ _ ?_ (fun hHeld => ?_); (focus exact Lw.sm_keep hS hb2); clear hK K; (try simp only [Act.put, List.setIfInBounds_toArray, List.set_cons_zero, List.set_cons_succ]))
    have hS := Lw.sm_keep hS hb2
    (refine Lw.take1 (i := 8) (v := ?_) rfl (by kernel_rfl) (by kernel_rfl) (by kernel_rfl) (fun _ _ _ h => h) (Or.inl ⟨by rfl, ?_⟩) (by assumption) ?_; rotate_left 1; (focus (intro wS hSw; obtain ⟨hS1, hS2, hS3, hS4⟩ := hSw; go_simp <;> with_reducible rfl)); (try simp only [Act.put, List.setIfInBounds_toArray, List.set_cons_zero, List.set_cons_succ]))
    refine wpAnyH_done (by kernel_rfl) ?_ _
    have hB2 := hBW.trans ((hS.2.2.2).mono hBW.size)
    have m0 := (hS.1 ⟨w.heap.size, 0, none⟩ hWs).trans l0
    have m1 := (hS.1 ⟨w.heap.size, 1, none⟩ hWs).trans l1
    clear hHeld hb1 hb2
    go_wp2_with fail
    refine wp_loop_rounds 2 ?_
    repeat any_goals (rw [rounds_succ]; go_wp2_with fail)
    all_goals (go_ret3; exact ⟨by rw [E.out]; rfl, hB2⟩)
  · have z1 : (v2 != 0) = true := by simpa using h1
    subst h0
    clear h1
    go_enter Try.func28, Try.ntmps28
    go_wp2_with fail
    rw [HW.out]
    go_wp2_with fail
    refine wp_region_held_drew (S := Lw.Sm W) (by kernel_rfl) (Lw.sm_drew W) (fun hHeld => ?_)
    (refine Lw.take1 (i := 0) (v := ?_) rfl (by kernel_rfl) (by kernel_rfl) (by kernel_rfl) (fun _ _ _ h => h) (Or.inl ⟨by rfl, ?_⟩) (by assumption) ?_; rotate_left 1; (focus (intro wS hSw; obtain ⟨hS1, hS2, hS3, hS4⟩ := hSw; go_simp <;> with_reducible rfl)); (try simp only [Act.put, List.setIfInBounds_toArray, List.set_cons_zero, List.set_cons_succ]))
    (refine Lw.take1 (i := 1) (v := ?_) rfl (by kernel_rfl) (by kernel_rfl) (by kernel_rfl) (fun _ _ _ h => h) (Or.inl ⟨by rfl, ?_⟩) (by assumption) ?_; rotate_left 1; (focus (intro wS hSw; obtain ⟨hS1, hS2, hS3, hS4⟩ := hSw; go_simp <;> with_reducible rfl)); (try simp only [Act.put, List.setIfInBounds_toArray, List.set_cons_zero, List.set_cons_succ]))
    (refine Lw.take1 (i := 2) (v := ?_) rfl (by kernel_rfl) (by kernel_rfl) (by kernel_rfl) (fun _ _ _ h => h) (Or.inl ⟨by rfl, ?_⟩) (by assumption) ?_; rotate_left 1; (focus (intro wS hSw; obtain ⟨hS1, hS2, hS3, hS4⟩ := hSw; go_simp <;> with_reducible rfl)); (try simp only [Act.put, List.setIfInBounds_toArray, List.set_cons_zero, List.set_cons_succ]))
    (refine Lw.take1 (i := 4) (v := ?_) rfl (by kernel_rfl) (by kernel_rfl) (by kernel_rfl) (fun _ _ _ h => h) (Or.inl ⟨by rfl, ?_⟩) (by assumption) ?_; rotate_left 1; (focus (intro wS hSw; obtain ⟨hS1, hS2, hS3, hS4⟩ := hSw; go_simp <;> with_reducible rfl)); (try simp only [Act.put, List.setIfInBounds_toArray, List.set_cons_zero, List.set_cons_succ]))
    (refine Lw.take1 (i := 5) (v := ?_) rfl (by kernel_rfl) (by kernel_rfl) (by kernel_rfl) (fun _ _ _ h => h) (Or.inl ⟨by rfl, ?_⟩) (by assumption) ?_; rotate_left 1; (focus (intro wS hSw; obtain ⟨hS1, hS2, hS3, hS4⟩ := hSw; go_simp <;> with_reducible rfl)); (try simp only [Act.put, List.setIfInBounds_toArray, List.set_cons_zero, List.set_cons_succ]))
    (refine Lw.take1 (i := 6) (v := ?_) rfl (by kernel_rfl) (by kernel_rfl) (by kernel_rfl) (fun _ _ _ h => h) (Or.inl ⟨by rfl, ?_⟩) (by assumption) ?_; rotate_left 1; (focus (intro wS hSw; obtain ⟨hS1, hS2, hS3, hS4⟩ := hSw; go_simp <;> with_reducible rfl)); (try simp only [Act.put, List.setIfInBounds_toArray, List.set_cons_zero, List.set_cons_succ]))
    (refine Lw.take1 (i := 9) (v := ?_) rfl (by kernel_rfl) (by kernel_rfl) (by kernel_rfl) (fun _ _ _ h => h) (Or.inl ⟨by rfl, ?_⟩) (by assumption) ?_; rotate_left 1; (focus (intro wS hSw; obtain ⟨hS1, hS2, hS3, hS4⟩ := hSw; go_simp <;> with_reducible rfl)); (try simp only [Act.put, List.setIfInBounds_toArray, List.set_cons_zero, List.set_cons_succ]))
    (refine wpAnyH_ready (rs := [3]) (by kernel_rfl) (by simp) ?_; refine Lw.cons1 (i := 3) rfl (fun K hK => ?_) AllReadyH.nil; go_simp; go_at_call 43; (with_reducible refine (X1.out _).mono ?_); rintro e w1 ⟨rfl, hb1⟩; refine hK.out _ _ ?_ (fun hHeld => ?_); (focus exact Lw.sm_keep (Lw.sm_drew W) hb1); clear hK K; (try simp only [Act.put, List.setIfInBounds_toArray, List.set_cons_zero, List.set_cons_succ]))
    have hS := Lw.sm_keep (Lw.sm_drew W) hb1
    (refine wpAnyH_ready (rs := [7]) (by kernel_rfl) (by simp) ?_; refine Lw.cons1 (i := 7) rfl (fun K hK => ?_) AllReadyH.nil; go_simp; go_at_call 43; (with_reducible refine (X2.out _).mono ?_); rintro e w2 ⟨rfl, hb2⟩; refine hK.out _ _ ?_ (fun hHeld => ?_); (focus exact Lw.sm_keep hS hb2); clear hK K; (try simp only [Act.put, List.setIfInBounds_toArray, List.set_cons_zero, List.set_cons_succ]))
    have hS := Lw.sm_keep hS hb2
    (refine Lw.take1 (i := 8) (v := ?_) rfl (by kernel_rfl) (by kernel_rfl) (by kernel_rfl) (fun _ _ _ h => h) (Or.inl ⟨by rfl, ?_⟩) (by assumption) ?_; rotate_left 1; (focus (intro wS hSw; obtain ⟨hS1, hS2, hS3, hS4⟩ := hSw; go_simp <;> with_reducible rfl)); (try simp only [Act.put, List.setIfInBounds_toArray, List.set_cons_zero, List.set_cons_succ]))
    refine wpAnyH_done (by kernel_rfl) ?_ _
    have hB2 := hBW.trans ((hS.2.2.2).mono hBW.size)
    have m0 := (hS.1 ⟨w.heap.size, 0, none⟩ hWs).trans l0
    have m1 := (hS.1 ⟨w.heap.size, 1, none⟩ hWs).trans l1
    clear hHeld hb1 hb2
    go_wp2_with fail
    refine wp_loop_rounds 3 ?_
    repeat any_goals (rw [rounds_succ]; go_wp2_with fail)
    all_goals (go_ret3; exact ⟨by rw [E.out]; rfl, hB2⟩)
set_option maxRecDepth 100000 in
set_option maxHeartbeats 4000000 in
theorem tree_Clash_form (n i : Nat) (A B A' B' : Option Addr) (l k l' k' c d c' d' : Nat) (a ps b qs : List Int) (w : World) (RA : Lw.Rd w 1 A l (Lw.intsV .u8 a)) (RB : Lw.Rd w 1 B k (Lw.intsV .u32 ps)) (ha : Lw.Byt a) (hp : ∀ z ∈ ps, 0 ≤ z ∧ z < 4294967296) (RA' : Lw.Rd w 1 A' l' (Lw.intsV .u8 b)) (RB' : Lw.Rd w 1 B' k' (Lw.intsV .u32 qs)) (hb : Lw.Byt b) (hq : ∀ z ∈ qs, 0 ≤ z ∧ z < 4294967296)
    (e1 : Lw.plcE (n : Int) (i : Int) l k = 0) (e2 : Lw.plcE (n : Int) (i : Int) l' k' = 0) (hkd : k ≤ d) (hkd' : k' ≤ d') (h : Lw.textsL n i a ps = none ∨ Lw.textsL n i b qs = none ∨ ∃ L M, Lw.textsL n i a ps = some L ∧ Lw.textsL n i b qs = some M ∧ ¬ Lw.nodL L = Lw.nodL M) :
    Calls Try.prog 28 #[.int .i64 (n : Int), .int .i64 (i : Int), .slice A l c, .slice B k d, .slice A' l' c', .slice B' k' d'] w fun e w' => e = .returned (.tuple #[.slice none 0 0, .slice none 0 0, .int .i64 4]) ∧ Below w.heap.size w w' := by
  have X1 := fun w => place_wrong (n : Int) (i : Int) A B l k c d w
  have X2 := fun w => place_wrong (n : Int) (i : Int) A' B' l' k' c' d' w
  rw [e1] at X1
  rw [e2] at X2
  replace X1 := Lib.hid X1
  replace X2 := Lib.hid X2
  obtain ⟨_, p1, _, p2, p3, p4⟩ := Lw.plc_in e1
  obtain ⟨_, _, _, _, p5, p6⟩ := Lw.plc_in e2
  have T1 := Lib.hid (fun W (hB : Below w.heap.size w W) => place_texts n i A B l k c d a ps W (RA.below (Nat.le_refl _) hB) (RB.below (Nat.le_refl _) hB) ha hp (by omega) (by omega) p3 p4 hkd)
  have T2 := Lib.hid (fun W (hB : Below w.heap.size w W) => place_texts n i A' B' l' k' c' d' b qs W (RA'.below (Nat.le_refl _) hB) (RB'.below (Nat.le_refl _) hB) hb hq (by omega) (by omega) p5 p6 hkd')
  have EQ := Lib.hid (fun W (hB : Below w.heap.size w W) => bytes_Equal A A' l l' c c' a b W (RA.below (Nat.le_refl _) hB) (RA'.below (Nat.le_refl _) hB) ha hb)
  generalize Lw.textsL n i a ps = S1 at *
  generalize Lw.textsL n i b qs = S2 at *
  obtain ⟨W, hW⟩ : ∃ W, w.alloc (.cells #[.int .i64 (n : Int), .int .i64 (i : Int)] 81) = W := ⟨_, rfl⟩
  have B0 := Lib.hid (show W.heap[w.heap.size]? = some (.cells #[.int .i64 (n : Int), .int .i64 (i : Int)] 81 (0, 0)) from hW ▸ Lw.blk_new _ _ _)
  have hBW : Below w.heap.size w W := by rw [← hW]; exact Lw.balloc (Below.refl _ _) _
  have hWs : w.heap.size < W.heap.size := by rw [← hW]; simp
  have l0 := Lw.blk_cell B0.out 0
  have l1 := Lw.blk_cell B0.out 1
  simp at l0 l1
  have HW := Lib.hid hW
  have I0 := fun W => Lw.run_index_arr (P := Try.prog) (k := .i64) (cs := #[.int .i64 0, .int .i64 0]) Try.underlying94 Try.underlying23 (by kernel_rfl) 0 (by decide) rfl W
  have I1 := fun W => Lw.run_index_arr (P := Try.prog) (k := .i64) (cs := #[.int .i64 0, .int .i64 0]) Try.underlying94 Try.underlying23 (by kernel_rfl) 1 (by decide) rfl W
  simp only [Int.natCast_zero, show ((1 : Nat) : Int) = 1 from rfl] at I0 I1
  clear hW RA RB RA' RB' ha hb hp hq e1 e2 EQ
  go_enter Try.func28, Try.ntmps28
  go_wp2_with fail
  rw [HW.out]
  go_wp2_with fail
  refine wp_region_held_drew (S := Lw.Sm W) (by kernel_rfl) (Lw.sm_drew W) (fun hHeld => ?_)
  (refine Lw.take1 (i := 0) (v := ?_) rfl (by kernel_rfl) (by kernel_rfl) (by kernel_rfl) (fun _ _ _ h => h) (Or.inl ⟨by rfl, ?_⟩) (by assumption) ?_; rotate_left 1; (focus (intro wS hSw; obtain ⟨hS1, hS2, hS3, hS4⟩ := hSw; go_simp <;> with_reducible rfl)); (try simp only [Act.put, List.setIfInBounds_toArray, List.set_cons_zero, List.set_cons_succ]))
  (refine Lw.take1 (i := 1) (v := ?_) rfl (by kernel_rfl) (by kernel_rfl) (by kernel_rfl) (fun _ _ _ h => h) (Or.inl ⟨by rfl, ?_⟩) (by assumption) ?_; rotate_left 1; (focus (intro wS hSw; obtain ⟨hS1, hS2, hS3, hS4⟩ := hSw; go_simp <;> with_reducible rfl)); (try simp only [Act.put, List.setIfInBounds_toArray, List.set_cons_zero, List.set_cons_succ]))
  (refine Lw.take1 (i := 2) (v := ?_) rfl (by kernel_rfl) (by kernel_rfl) (by kernel_rfl) (fun _ _ _ h => h) (Or.inl ⟨by rfl, ?_⟩) (by assumption) ?_; rotate_left 1; (focus (intro wS hSw; obtain ⟨hS1, hS2, hS3, hS4⟩ := hSw; go_simp <;> with_reducible rfl)); (try simp only [Act.put, List.setIfInBounds_toArray, List.set_cons_zero, List.set_cons_succ]))
  (refine Lw.take1 (i := 4) (v := ?_) rfl (by kernel_rfl) (by kernel_rfl) (by kernel_rfl) (fun _ _ _ h => h) (Or.inl ⟨by rfl, ?_⟩) (by assumption) ?_; rotate_left 1; (focus (intro wS hSw; obtain ⟨hS1, hS2, hS3, hS4⟩ := hSw; go_simp <;> with_reducible rfl)); (try simp only [Act.put, List.setIfInBounds_toArray, List.set_cons_zero, List.set_cons_succ]))
  (refine Lw.take1 (i := 5) (v := ?_) rfl (by kernel_rfl) (by kernel_rfl) (by kernel_rfl) (fun _ _ _ h => h) (Or.inl ⟨by rfl, ?_⟩) (by assumption) ?_; rotate_left 1; (focus (intro wS hSw; obtain ⟨hS1, hS2, hS3, hS4⟩ := hSw; go_simp <;> with_reducible rfl)); (try simp only [Act.put, List.setIfInBounds_toArray, List.set_cons_zero, List.set_cons_succ]))
  (refine Lw.take1 (i := 6) (v := ?_) rfl (by kernel_rfl) (by kernel_rfl) (by kernel_rfl) (fun _ _ _ h => h) (Or.inl ⟨by rfl, ?_⟩) (by assumption) ?_; rotate_left 1; (focus (intro wS hSw; obtain ⟨hS1, hS2, hS3, hS4⟩ := hSw; go_simp <;> with_reducible rfl)); (try simp only [Act.put, List.setIfInBounds_toArray, List.set_cons_zero, List.set_cons_succ]))
  (refine Lw.take1 (i := 9) (v := ?_) rfl (by kernel_rfl) (by kernel_rfl) (by kernel_rfl) (fun _ _ _ h => h) (Or.inl ⟨by rfl, ?_⟩) (by assumption) ?_; rotate_left 1; (focus (intro wS hSw; obtain ⟨hS1, hS2, hS3, hS4⟩ := hSw; go_simp <;> with_reducible rfl)); (try simp only [Act.put, List.setIfInBounds_toArray, List.set_cons_zero, List.set_cons_succ]))
  (refine wpAnyH_ready (rs := [3]) (by kernel_rfl) (by simp) ?_; refine Lw.cons1 (i := 3) rfl (fun K hK => ?_) AllReadyH.nil; go_simp; go_at_call 43; (with_reducible refine (X1.out _).mono ?_); rintro e w1 ⟨rfl, hb1⟩; refine hK.out _ _ ?_ (fun hHeld => ?_); (focus exact Lw.sm_keep (Lw.sm_drew W) hb1); clear hK K; (try simp only [Act.put, List.setIfInBounds_toArray, List.set_cons_zero, List.set_cons_succ]))
  have hS := Lw.sm_keep (Lw.sm_drew W) hb1
  (refine wpAnyH_ready (rs := [7]) (by kernel_rfl) (by simp) ?_; refine Lw.cons1 (i := 7) rfl (fun K hK => ?_) AllReadyH.nil; go_simp; go_at_call 43; (with_reducible refine (X2.out _).mono ?_); rintro e w2 ⟨rfl, hb2⟩; refine hK.out _ _ ?_ (fun hHeld => ?_); (focus exact Lw.sm_keep hS hb2); clear hK K; (try simp only [Act.put, List.setIfInBounds_toArray, List.set_cons_zero, List.set_cons_succ]))
  have hS := Lw.sm_keep hS hb2
  (refine Lw.take1 (i := 8) (v := ?_) rfl (by kernel_rfl) (by kernel_rfl) (by kernel_rfl) (fun _ _ _ h => h) (Or.inl ⟨by rfl, ?_⟩) (by assumption) ?_; rotate_left 1; (focus (intro wS hSw; obtain ⟨hS1, hS2, hS3, hS4⟩ := hSw; go_simp <;> with_reducible rfl)); (try simp only [Act.put, List.setIfInBounds_toArray, List.set_cons_zero, List.set_cons_succ]))
  refine wpAnyH_done (by kernel_rfl) ?_ _
  have hB2 := hBW.trans ((hS.2.2.2).mono hBW.size)
  have m0 := (hS.1 ⟨w.heap.size, 0, none⟩ hWs).trans l0
  have m1 := (hS.1 ⟨w.heap.size, 1, none⟩ hWs).trans l1
  clear hHeld hb1 hb2
  go_wp2_with fail
  refine wp_loop_rounds 3 ?_
  repeat any_goals (rw [rounds_succ]; go_wp2_with fail)
  refine (T1.out _ hB2).mono ?_
  rintro e w3 ⟨C, m, g, ok, rfl, hok, hL, hb3⟩
  have HL1 := Lib.hid hL
  have HOK := Lib.hid hok
  clear hL hok
  have hB3 := Lw.bt hB2 hb3
  have hz2 : w.heap.size < w2.heap.size := by have := hS.2.2.1; omega
  have m0 := (hb3.cell (p := ⟨w.heap.size, 0, none⟩) hz2).trans m0
  have m1 := (hb3.cell (p := ⟨w.heap.size, 1, none⟩) hz2).trans m1
  go_wp2_with fail
  refine (T2.out _ hB3).mono ?_
  rintro e w4 ⟨C', m', g', ok', rfl, hok', hL', hb4⟩
  have HL2 := Lib.hid hL'
  have HOK' := Lib.hid hok'
  clear hL' hok'
  have hB4 := Lw.bt hB3 hb4
  cases ok with
  | false =>
    clear h HOK HOK' HL1 HL2
    go_wp2_with fail
    go_ret3
    exact ⟨rfl, hB4⟩
  | true =>
    cases ok' with
    | false =>
      clear h HOK HOK' HL1 HL2
      go_wp2_with fail
      go_ret3
      exact ⟨rfl, hB4⟩
    | true =>
      rcases h with h | h | ⟨L, M, h1, h2, h3⟩
      · have := HOK.out; rw [h] at this; cases this
      · have := HOK'.out; rw [h] at this; cases this
      · obtain ⟨T, ⟨TR, TO, TL⟩, hT, hm⟩ := HL1.out L h1
        obtain ⟨T', ⟨TR', TO', TL'⟩, hT', hm'⟩ := HL2.out M h2
        have N1 := tree_node C m g T w4 (TR.below (Nat.le_refl _) hb4) (fun r hr => Lw.txtOk_below (TO r hr) (Nat.le_refl _) hb4) (by omega)
        have N2 := fun W (hb : Below w4.heap.size w4 W) => tree_node C' m' g' T' W (TR'.below (Nat.le_refl _) hb) (fun r hr => Lw.txtOk_below (TO' r hr) (Nat.le_refl _) hb) (by omega)
        rw [Lw.nodV_eq, hT] at N1
        rw [Lw.nodV_eq, hT'] at N2
        replace N1 := Lib.hid N1
        replace N2 := Lib.hid N2
        have z : (Lw.nodL L != Lw.nodL M) = true := by simpa using h3
        generalize Lw.nodL L = u at *
        generalize Lw.nodL M = v at *
        clear h1 h2 h3 TR TO TL TR' TO' TL' hT hT' HL1 HL2 HOK HOK'
        go_wp2_with fail
        refine N1.out.mono ?_
        rintro e w5 ⟨rfl, hb5⟩
        go_wp2_with fail
        refine (N2.out _ hb5).mono ?_
        rintro e w6 ⟨rfl, hb6⟩
        go_wp2_with fail
        go_ret3
        exact ⟨rfl, Lw.bt (Lw.bt hB4 hb5) hb6⟩
set_option maxRecDepth 100000 in
set_option maxHeartbeats 4000000 in
theorem tree_Clash_none (n i : Nat) (A B A' B' : Option Addr) (l k l' k' c d c' d' : Nat) (a ps b qs : List Int) (w : World) (RA : Lw.Rd w 1 A l (Lw.intsV .u8 a)) (RB : Lw.Rd w 1 B k (Lw.intsV .u32 ps)) (ha : Lw.Byt a) (hp : ∀ z ∈ ps, 0 ≤ z ∧ z < 4294967296) (RA' : Lw.Rd w 1 A' l' (Lw.intsV .u8 b)) (RB' : Lw.Rd w 1 B' k' (Lw.intsV .u32 qs)) (hb : Lw.Byt b) (hq : ∀ z ∈ qs, 0 ≤ z ∧ z < 4294967296)
    (e1 : Lw.plcE (n : Int) (i : Int) l k = 0) (e2 : Lw.plcE (n : Int) (i : Int) l' k' = 0) (hkd : k ≤ d) (hkd' : k' ≤ d') (L M : List (Option (List Int))) (h1 : Lw.textsL n i a ps = some L) (h2 : Lw.textsL n i b qs = some M) (h3 : Lw.nodL L = Lw.nodL M) (hab : a = b) :
    Calls Try.prog 28 #[.int .i64 (n : Int), .int .i64 (i : Int), .slice A l c, .slice B k d, .slice A' l' c', .slice B' k' d'] w fun e w' => e = .returned (.tuple #[.slice none 0 0, .slice none 0 0, .int .i64 5]) ∧ Below w.heap.size w w' := by
  have X1 := fun w => place_wrong (n : Int) (i : Int) A B l k c d w
  have X2 := fun w => place_wrong (n : Int) (i : Int) A' B' l' k' c' d' w
  rw [e1] at X1
  rw [e2] at X2
  replace X1 := Lib.hid X1
  replace X2 := Lib.hid X2
  obtain ⟨_, p1, _, p2, p3, p4⟩ := Lw.plc_in e1
  obtain ⟨_, _, _, _, p5, p6⟩ := Lw.plc_in e2
  have T1 := Lib.hid (fun W (hB : Below w.heap.size w W) => place_texts n i A B l k c d a ps W (RA.below (Nat.le_refl _) hB) (RB.below (Nat.le_refl _) hB) ha hp (by omega) (by omega) p3 p4 hkd)
  have T2 := Lib.hid (fun W (hB : Below w.heap.size w W) => place_texts n i A' B' l' k' c' d' b qs W (RA'.below (Nat.le_refl _) hB) (RB'.below (Nat.le_refl _) hB) hb hq (by omega) (by omega) p5 p6 hkd')
  have EQ := Lib.hid (fun W (hB : Below w.heap.size w W) => bytes_Equal A A' l l' c c' a b W (RA.below (Nat.le_refl _) hB) (RA'.below (Nat.le_refl _) hB) ha hb)
  generalize Lw.textsL n i a ps = S1 at *
  generalize Lw.textsL n i b qs = S2 at *
  obtain ⟨W, hW⟩ : ∃ W, w.alloc (.cells #[.int .i64 (n : Int), .int .i64 (i : Int)] 81) = W := ⟨_, rfl⟩
  have B0 := Lib.hid (show W.heap[w.heap.size]? = some (.cells #[.int .i64 (n : Int), .int .i64 (i : Int)] 81 (0, 0)) from hW ▸ Lw.blk_new _ _ _)
  have hBW : Below w.heap.size w W := by rw [← hW]; exact Lw.balloc (Below.refl _ _) _
  have hWs : w.heap.size < W.heap.size := by rw [← hW]; simp
  have l0 := Lw.blk_cell B0.out 0
  have l1 := Lw.blk_cell B0.out 1
  simp at l0 l1
  have HW := Lib.hid hW
  have I0 := fun W => Lw.run_index_arr (P := Try.prog) (k := .i64) (cs := #[.int .i64 0, .int .i64 0]) Try.underlying94 Try.underlying23 (by kernel_rfl) 0 (by decide) rfl W
  have I1 := fun W => Lw.run_index_arr (P := Try.prog) (k := .i64) (cs := #[.int .i64 0, .int .i64 0]) Try.underlying94 Try.underlying23 (by kernel_rfl) 1 (by decide) rfl W
  simp only [Int.natCast_zero, show ((1 : Nat) : Int) = 1 from rfl] at I0 I1
  have ZE : decide (a = b) = true := decide_eq_true hab
  rw [ZE] at EQ
  clear hW RA RB RA' RB' ha hb hp hq e1 e2 hab ZE
  go_enter Try.func28, Try.ntmps28
  go_wp2_with fail
  rw [HW.out]
  go_wp2_with fail
  refine wp_region_held_drew (S := Lw.Sm W) (by kernel_rfl) (Lw.sm_drew W) (fun hHeld => ?_)
  (refine Lw.take1 (i := 0) (v := ?_) rfl (by kernel_rfl) (by kernel_rfl) (by kernel_rfl) (fun _ _ _ h => h) (Or.inl ⟨by rfl, ?_⟩) (by assumption) ?_; rotate_left 1; (focus (intro wS hSw; obtain ⟨hS1, hS2, hS3, hS4⟩ := hSw; go_simp <;> with_reducible rfl)); (try simp only [Act.put, List.setIfInBounds_toArray, List.set_cons_zero, List.set_cons_succ]))
  (refine Lw.take1 (i := 1) (v := ?_) rfl (by kernel_rfl) (by kernel_rfl) (by kernel_rfl) (fun _ _ _ h => h) (Or.inl ⟨by rfl, ?_⟩) (by assumption) ?_; rotate_left 1; (focus (intro wS hSw; obtain ⟨hS1, hS2, hS3, hS4⟩ := hSw; go_simp <;> with_reducible rfl)); (try simp only [Act.put, List.setIfInBounds_toArray, List.set_cons_zero, List.set_cons_succ]))
  (refine Lw.take1 (i := 2) (v := ?_) rfl (by kernel_rfl) (by kernel_rfl) (by kernel_rfl) (fun _ _ _ h => h) (Or.inl ⟨by rfl, ?_⟩) (by assumption) ?_; rotate_left 1; (focus (intro wS hSw; obtain ⟨hS1, hS2, hS3, hS4⟩ := hSw; go_simp <;> with_reducible rfl)); (try simp only [Act.put, List.setIfInBounds_toArray, List.set_cons_zero, List.set_cons_succ]))
  (refine Lw.take1 (i := 4) (v := ?_) rfl (by kernel_rfl) (by kernel_rfl) (by kernel_rfl) (fun _ _ _ h => h) (Or.inl ⟨by rfl, ?_⟩) (by assumption) ?_; rotate_left 1; (focus (intro wS hSw; obtain ⟨hS1, hS2, hS3, hS4⟩ := hSw; go_simp <;> with_reducible rfl)); (try simp only [Act.put, List.setIfInBounds_toArray, List.set_cons_zero, List.set_cons_succ]))
  (refine Lw.take1 (i := 5) (v := ?_) rfl (by kernel_rfl) (by kernel_rfl) (by kernel_rfl) (fun _ _ _ h => h) (Or.inl ⟨by rfl, ?_⟩) (by assumption) ?_; rotate_left 1; (focus (intro wS hSw; obtain ⟨hS1, hS2, hS3, hS4⟩ := hSw; go_simp <;> with_reducible rfl)); (try simp only [Act.put, List.setIfInBounds_toArray, List.set_cons_zero, List.set_cons_succ]))
  (refine Lw.take1 (i := 6) (v := ?_) rfl (by kernel_rfl) (by kernel_rfl) (by kernel_rfl) (fun _ _ _ h => h) (Or.inl ⟨by rfl, ?_⟩) (by assumption) ?_; rotate_left 1; (focus (intro wS hSw; obtain ⟨hS1, hS2, hS3, hS4⟩ := hSw; go_simp <;> with_reducible rfl)); (try simp only [Act.put, List.setIfInBounds_toArray, List.set_cons_zero, List.set_cons_succ]))
  (refine Lw.take1 (i := 9) (v := ?_) rfl (by kernel_rfl) (by kernel_rfl) (by kernel_rfl) (fun _ _ _ h => h) (Or.inl ⟨by rfl, ?_⟩) (by assumption) ?_; rotate_left 1; (focus (intro wS hSw; obtain ⟨hS1, hS2, hS3, hS4⟩ := hSw; go_simp <;> with_reducible rfl)); (try simp only [Act.put, List.setIfInBounds_toArray, List.set_cons_zero, List.set_cons_succ]))
  (refine wpAnyH_ready (rs := [3]) (by kernel_rfl) (by simp) ?_; refine Lw.cons1 (i := 3) rfl (fun K hK => ?_) AllReadyH.nil; go_simp; go_at_call 43; (with_reducible refine (X1.out _).mono ?_); rintro e w1 ⟨rfl, hb1⟩; refine hK.out _ _ ?_ (fun hHeld => ?_); (focus exact Lw.sm_keep (Lw.sm_drew W) hb1); clear hK K; (try simp only [Act.put, List.setIfInBounds_toArray, List.set_cons_zero, List.set_cons_succ]))
  have hS := Lw.sm_keep (Lw.sm_drew W) hb1
  (refine wpAnyH_ready (rs := [7]) (by kernel_rfl) (by simp) ?_; refine Lw.cons1 (i := 7) rfl (fun K hK => ?_) AllReadyH.nil; go_simp; go_at_call 43; (with_reducible refine (X2.out _).mono ?_); rintro e w2 ⟨rfl, hb2⟩; refine hK.out _ _ ?_ (fun hHeld => ?_); (focus exact Lw.sm_keep hS hb2); clear hK K; (try simp only [Act.put, List.setIfInBounds_toArray, List.set_cons_zero, List.set_cons_succ]))
  have hS := Lw.sm_keep hS hb2
  (refine Lw.take1 (i := 8) (v := ?_) rfl (by kernel_rfl) (by kernel_rfl) (by kernel_rfl) (fun _ _ _ h => h) (Or.inl ⟨by rfl, ?_⟩) (by assumption) ?_; rotate_left 1; (focus (intro wS hSw; obtain ⟨hS1, hS2, hS3, hS4⟩ := hSw; go_simp <;> with_reducible rfl)); (try simp only [Act.put, List.setIfInBounds_toArray, List.set_cons_zero, List.set_cons_succ]))
  refine wpAnyH_done (by kernel_rfl) ?_ _
  have hB2 := hBW.trans ((hS.2.2.2).mono hBW.size)
  have m0 := (hS.1 ⟨w.heap.size, 0, none⟩ hWs).trans l0
  have m1 := (hS.1 ⟨w.heap.size, 1, none⟩ hWs).trans l1
  clear hHeld hb1 hb2
  go_wp2_with fail
  refine wp_loop_rounds 3 ?_
  repeat any_goals (rw [rounds_succ]; go_wp2_with fail)
  refine (T1.out _ hB2).mono ?_
  rintro e w3 ⟨C, m, g, ok, rfl, hok, hL, hb3⟩
  have HL1 := Lib.hid hL
  have HOK := Lib.hid hok
  clear hL hok
  have hB3 := Lw.bt hB2 hb3
  have hz2 : w.heap.size < w2.heap.size := by have := hS.2.2.1; omega
  have m0 := (hb3.cell (p := ⟨w.heap.size, 0, none⟩) hz2).trans m0
  have m1 := (hb3.cell (p := ⟨w.heap.size, 1, none⟩) hz2).trans m1
  go_wp2_with fail
  refine (T2.out _ hB3).mono ?_
  rintro e w4 ⟨C', m', g', ok', rfl, hok', hL', hb4⟩
  have HL2 := Lib.hid hL'
  have HOK' := Lib.hid hok'
  clear hL' hok'
  have hB4 := Lw.bt hB3 hb4
  obtain rfl : ok = true := by have := HOK.out; rw [h1] at this; exact this
  obtain rfl : ok' = true := by have := HOK'.out; rw [h2] at this; exact this
  obtain ⟨T, TX, hT, hm⟩ := HL1.out L h1
  obtain ⟨T', TX', hT', hm'⟩ := HL2.out M h2
  have TXH := Lib.hid (TX.below (Nat.le_refl _) hb4)
  have TXH' := Lib.hid TX'
  have HT := Lib.hid hT
  have HT' := Lib.hid hT'
  have N1 := tree_node C m g T w4 TXH.out.1 TXH.out.2.1 (by omega)
  have N2 := fun W (hb : Below w4.heap.size w4 W) => tree_node C' m' g' T' W (TX'.1.below (Nat.le_refl _) hb) (fun r hr => Lw.txtOk_below (TX'.2.1 r hr) (Nat.le_refl _) hb) (by omega)
  rw [Lw.nodV_eq, hT] at N1
  rw [Lw.nodV_eq, hT', ← h3] at N2
  replace N1 := Lib.hid N1
  replace N2 := Lib.hid N2
  generalize Lw.nodL L = u at *
  clear h1 h2 h3 TX TX' hT hT' HL1 HL2 HOK HOK'
  go_wp2_with fail
  refine N1.out.mono ?_
  rintro e w5 ⟨rfl, hb5⟩
  go_wp2_with fail
  refine (N2.out _ hb5).mono ?_
  rintro e w6 ⟨rfl, hb6⟩
  have hB6 := Lw.bt (Lw.bt hB4 hb5) hb6
  have hb46 := Lw.bt hb5 hb6
  go_wp2_with fail
  refine (EQ.out _ hB6).mono ?_
  rintro e w' ⟨rfl, rfl⟩
  go_wp2_with fail
  go_ret3
  exact ⟨rfl, hB6⟩
set_option maxRecDepth 100000 in
set_option maxHeartbeats 4000000 in
theorem tree_Clash_ok (n i : Nat) (A B A' B' : Option Addr) (l k l' k' c d c' d' : Nat) (a ps b qs : List Int) (w : World) (RA : Lw.Rd w 1 A l (Lw.intsV .u8 a)) (RB : Lw.Rd w 1 B k (Lw.intsV .u32 ps)) (ha : Lw.Byt a) (hp : ∀ z ∈ ps, 0 ≤ z ∧ z < 4294967296) (RA' : Lw.Rd w 1 A' l' (Lw.intsV .u8 b)) (RB' : Lw.Rd w 1 B' k' (Lw.intsV .u32 qs)) (hb : Lw.Byt b) (hq : ∀ z ∈ qs, 0 ≤ z ∧ z < 4294967296)
    (e1 : Lw.plcE (n : Int) (i : Int) l k = 0) (e2 : Lw.plcE (n : Int) (i : Int) l' k' = 0) (hkd : k ≤ d) (hkd' : k' ≤ d') (L M : List (Option (List Int))) (h1 : Lw.textsL n i a ps = some L) (h2 : Lw.textsL n i b qs = some M) (h3 : Lw.nodL L = Lw.nodL M) (hab : ¬ a = b) (kk : Nat) (x y : List Int) (hx : L[kk]? = some (some x)) (hy : M[kk]? = some (some y)) (hxy : Lw.hsum x = Lw.hsum y) (hno : ∀ j, j < kk → ¬ Lw.Eqk L M j) (hsh : Lw.shpL L = Lw.shpL M) :
    Calls Try.prog 28 #[.int .i64 (n : Int), .int .i64 (i : Int), .slice A l c, .slice B k d, .slice A' l' c', .slice B' k' d'] w (Lw.ClsR x y w) := by
  have X1 := fun w => place_wrong (n : Int) (i : Int) A B l k c d w
  have X2 := fun w => place_wrong (n : Int) (i : Int) A' B' l' k' c' d' w
  rw [e1] at X1
  rw [e2] at X2
  replace X1 := Lib.hid X1
  replace X2 := Lib.hid X2
  obtain ⟨_, p1, _, p2, p3, p4⟩ := Lw.plc_in e1
  obtain ⟨_, _, _, _, p5, p6⟩ := Lw.plc_in e2
  have T1 := Lib.hid (fun W (hB : Below w.heap.size w W) => place_texts n i A B l k c d a ps W (RA.below (Nat.le_refl _) hB) (RB.below (Nat.le_refl _) hB) ha hp (by omega) (by omega) p3 p4 hkd)
  have T2 := Lib.hid (fun W (hB : Below w.heap.size w W) => place_texts n i A' B' l' k' c' d' b qs W (RA'.below (Nat.le_refl _) hB) (RB'.below (Nat.le_refl _) hB) hb hq (by omega) (by omega) p5 p6 hkd')
  have EQ := Lib.hid (fun W (hB : Below w.heap.size w W) => bytes_Equal A A' l l' c c' a b W (RA.below (Nat.le_refl _) hB) (RA'.below (Nat.le_refl _) hB) ha hb)
  generalize Lw.textsL n i a ps = S1 at *
  generalize Lw.textsL n i b qs = S2 at *
  obtain ⟨W, hW⟩ : ∃ W, w.alloc (.cells #[.int .i64 (n : Int), .int .i64 (i : Int)] 81) = W := ⟨_, rfl⟩
  have B0 := Lib.hid (show W.heap[w.heap.size]? = some (.cells #[.int .i64 (n : Int), .int .i64 (i : Int)] 81 (0, 0)) from hW ▸ Lw.blk_new _ _ _)
  have hBW : Below w.heap.size w W := by rw [← hW]; exact Lw.balloc (Below.refl _ _) _
  have hWs : w.heap.size < W.heap.size := by rw [← hW]; simp
  have l0 := Lw.blk_cell B0.out 0
  have l1 := Lw.blk_cell B0.out 1
  simp at l0 l1
  have HW := Lib.hid hW
  have I0 := fun W => Lw.run_index_arr (P := Try.prog) (k := .i64) (cs := #[.int .i64 0, .int .i64 0]) Try.underlying94 Try.underlying23 (by kernel_rfl) 0 (by decide) rfl W
  have I1 := fun W => Lw.run_index_arr (P := Try.prog) (k := .i64) (cs := #[.int .i64 0, .int .i64 0]) Try.underlying94 Try.underlying23 (by kernel_rfl) 1 (by decide) rfl W
  simp only [Int.natCast_zero, show ((1 : Nat) : Int) = 1 from rfl] at I0 I1
  have ZE : decide (a = b) = false := decide_eq_false hab
  rw [ZE] at EQ
  have HX := Lib.hid hx
  have HY := Lib.hid hy
  have HXY := Lib.hid hxy
  have HNO := Lib.hid hno
  have HSH := Lib.hid hsh
  have q := fun (w : World) (a : Option Addr) (n c : Nat) => Lw.neq_nil (P := Try.prog) w 40 5 a n c Try.underlying40
  clear hW RA RB RA' RB' ha hb hp hq e1 e2 hab ZE hx hy hxy hno hsh
  go_enter Try.func28, Try.ntmps28
  go_wp2_with fail
  rw [HW.out]
  go_wp2_with fail
  refine wp_region_held_drew (S := Lw.Sm W) (by kernel_rfl) (Lw.sm_drew W) (fun hHeld => ?_)
  (refine Lw.take1 (i := 0) (v := ?_) rfl (by kernel_rfl) (by kernel_rfl) (by kernel_rfl) (fun _ _ _ h => h) (Or.inl ⟨by rfl, ?_⟩) (by assumption) ?_; rotate_left 1; (focus (intro wS hSw; obtain ⟨hS1, hS2, hS3, hS4⟩ := hSw; go_simp <;> with_reducible rfl)); (try simp only [Act.put, List.setIfInBounds_toArray, List.set_cons_zero, List.set_cons_succ]))
  (refine Lw.take1 (i := 1) (v := ?_) rfl (by kernel_rfl) (by kernel_rfl) (by kernel_rfl) (fun _ _ _ h => h) (Or.inl ⟨by rfl, ?_⟩) (by assumption) ?_; rotate_left 1; (focus (intro wS hSw; obtain ⟨hS1, hS2, hS3, hS4⟩ := hSw; go_simp <;> with_reducible rfl)); (try simp only [Act.put, List.setIfInBounds_toArray, List.set_cons_zero, List.set_cons_succ]))
  (refine Lw.take1 (i := 2) (v := ?_) rfl (by kernel_rfl) (by kernel_rfl) (by kernel_rfl) (fun _ _ _ h => h) (Or.inl ⟨by rfl, ?_⟩) (by assumption) ?_; rotate_left 1; (focus (intro wS hSw; obtain ⟨hS1, hS2, hS3, hS4⟩ := hSw; go_simp <;> with_reducible rfl)); (try simp only [Act.put, List.setIfInBounds_toArray, List.set_cons_zero, List.set_cons_succ]))
  (refine Lw.take1 (i := 4) (v := ?_) rfl (by kernel_rfl) (by kernel_rfl) (by kernel_rfl) (fun _ _ _ h => h) (Or.inl ⟨by rfl, ?_⟩) (by assumption) ?_; rotate_left 1; (focus (intro wS hSw; obtain ⟨hS1, hS2, hS3, hS4⟩ := hSw; go_simp <;> with_reducible rfl)); (try simp only [Act.put, List.setIfInBounds_toArray, List.set_cons_zero, List.set_cons_succ]))
  (refine Lw.take1 (i := 5) (v := ?_) rfl (by kernel_rfl) (by kernel_rfl) (by kernel_rfl) (fun _ _ _ h => h) (Or.inl ⟨by rfl, ?_⟩) (by assumption) ?_; rotate_left 1; (focus (intro wS hSw; obtain ⟨hS1, hS2, hS3, hS4⟩ := hSw; go_simp <;> with_reducible rfl)); (try simp only [Act.put, List.setIfInBounds_toArray, List.set_cons_zero, List.set_cons_succ]))
  (refine Lw.take1 (i := 6) (v := ?_) rfl (by kernel_rfl) (by kernel_rfl) (by kernel_rfl) (fun _ _ _ h => h) (Or.inl ⟨by rfl, ?_⟩) (by assumption) ?_; rotate_left 1; (focus (intro wS hSw; obtain ⟨hS1, hS2, hS3, hS4⟩ := hSw; go_simp <;> with_reducible rfl)); (try simp only [Act.put, List.setIfInBounds_toArray, List.set_cons_zero, List.set_cons_succ]))
  (refine Lw.take1 (i := 9) (v := ?_) rfl (by kernel_rfl) (by kernel_rfl) (by kernel_rfl) (fun _ _ _ h => h) (Or.inl ⟨by rfl, ?_⟩) (by assumption) ?_; rotate_left 1; (focus (intro wS hSw; obtain ⟨hS1, hS2, hS3, hS4⟩ := hSw; go_simp <;> with_reducible rfl)); (try simp only [Act.put, List.setIfInBounds_toArray, List.set_cons_zero, List.set_cons_succ]))
  (refine wpAnyH_ready (rs := [3]) (by kernel_rfl) (by simp) ?_; refine Lw.cons1 (i := 3) rfl (fun K hK => ?_) AllReadyH.nil; go_simp; go_at_call 43; (with_reducible refine (X1.out _).mono ?_); rintro e w1 ⟨rfl, hb1⟩; refine hK.out _ _ ?_ (fun hHeld => ?_); (focus exact Lw.sm_keep (Lw.sm_drew W) hb1); clear hK K; (try simp only [Act.put, List.setIfInBounds_toArray, List.set_cons_zero, List.set_cons_succ]))
  have hS := Lw.sm_keep (Lw.sm_drew W) hb1
  (refine wpAnyH_ready (rs := [7]) (by kernel_rfl) (by simp) ?_; refine Lw.cons1 (i := 7) rfl (fun K hK => ?_) AllReadyH.nil; go_simp; go_at_call 43; (with_reducible refine (X2.out _).mono ?_); rintro e w2 ⟨rfl, hb2⟩; refine hK.out _ _ ?_ (fun hHeld => ?_); (focus exact Lw.sm_keep hS hb2); clear hK K; (try simp only [Act.put, List.setIfInBounds_toArray, List.set_cons_zero, List.set_cons_succ]))
  have hS := Lw.sm_keep hS hb2
  (refine Lw.take1 (i := 8) (v := ?_) rfl (by kernel_rfl) (by kernel_rfl) (by kernel_rfl) (fun _ _ _ h => h) (Or.inl ⟨by rfl, ?_⟩) (by assumption) ?_; rotate_left 1; (focus (intro wS hSw; obtain ⟨hS1, hS2, hS3, hS4⟩ := hSw; go_simp <;> with_reducible rfl)); (try simp only [Act.put, List.setIfInBounds_toArray, List.set_cons_zero, List.set_cons_succ]))
  refine wpAnyH_done (by kernel_rfl) ?_ _
  have hB2 := hBW.trans ((hS.2.2.2).mono hBW.size)
  have m0 := (hS.1 ⟨w.heap.size, 0, none⟩ hWs).trans l0
  have m1 := (hS.1 ⟨w.heap.size, 1, none⟩ hWs).trans l1
  clear hHeld hb1 hb2
  go_wp2_with fail
  refine wp_loop_rounds 3 ?_
  repeat any_goals (rw [rounds_succ]; go_wp2_with fail)
  refine (T1.out _ hB2).mono ?_
  rintro e w3 ⟨C, m, g, ok, rfl, hok, hL, hb3⟩
  have HL1 := Lib.hid hL
  have HOK := Lib.hid hok
  clear hL hok
  have hB3 := Lw.bt hB2 hb3
  have hz2 : w.heap.size < w2.heap.size := by have := hS.2.2.1; omega
  have m0 := (hb3.cell (p := ⟨w.heap.size, 0, none⟩) hz2).trans m0
  have m1 := (hb3.cell (p := ⟨w.heap.size, 1, none⟩) hz2).trans m1
  go_wp2_with fail
  refine (T2.out _ hB3).mono ?_
  rintro e w4 ⟨C', m', g', ok', rfl, hok', hL', hb4⟩
  have HL2 := Lib.hid hL'
  have HOK' := Lib.hid hok'
  clear hL' hok'
  have hB4 := Lw.bt hB3 hb4
  obtain rfl : ok = true := by have := HOK.out; rw [h1] at this; exact this
  obtain rfl : ok' = true := by have := HOK'.out; rw [h2] at this; exact this
  obtain ⟨T, TX, hT, hm⟩ := HL1.out L h1
  obtain ⟨T', TX', hT', hm'⟩ := HL2.out M h2
  have TXH := Lib.hid (TX.below (Nat.le_refl _) hb4)
  have TXH' := Lib.hid TX'
  have HT := Lib.hid hT
  have HT' := Lib.hid hT'
  have N1 := tree_node C m g T w4 TXH.out.1 TXH.out.2.1 (by omega)
  have N2 := fun W (hb : Below w4.heap.size w4 W) => tree_node C' m' g' T' W (TX'.1.below (Nat.le_refl _) hb) (fun r hr => Lw.txtOk_below (TX'.2.1 r hr) (Nat.le_refl _) hb) (by omega)
  rw [Lw.nodV_eq, hT] at N1
  rw [Lw.nodV_eq, hT', ← h3] at N2
  replace N1 := Lib.hid N1
  replace N2 := Lib.hid N2
  generalize Lw.nodL L = u at *
  clear h1 h2 h3 TX TX' hT hT' HL1 HL2 HOK HOK'
  go_wp2_with fail
  refine N1.out.mono ?_
  rintro e w5 ⟨rfl, hb5⟩
  go_wp2_with fail
  refine (N2.out _ hb5).mono ?_
  rintro e w6 ⟨rfl, hb6⟩
  have hB6 := Lw.bt (Lw.bt hB4 hb5) hb6
  have hb46 := Lw.bt hb5 hb6
  go_wp2_with fail
  refine (EQ.out _ hB6).mono ?_
  rintro e w' ⟨rfl, rfl⟩
  have hkl : kk < m := by
    have h := (List.getElem?_eq_some_iff.1 HX.out).1
    rw [← HT.out, List.length_map, TXH.out.2.2] at h; exact h
  have hmm : m' = m := by
    have h := Lw.shp_len HSH.out
    rw [← HT.out, ← HT'.out, List.length_map, List.length_map, TXH.out.2.2, TXH'.out.2.2] at h; exact h.symm
  subst hmm
  have TA := Lib.hid (TXH.out.below (Nat.le_refl _) hb46)
  have TB := Lib.hid (TXH'.out.below (Nat.le_refl _) hb46)
  clear TXH TXH' N1 N2 EQ T1 T2 X1 X2
  go_wp2_with fail
  go_loopw [22, 74] (fun _ j wr => ∃ s : Nat, j = .int .i64 (s : Int) ∧ s ≤ kk ∧ Below w6.heap.size w6 wr) (fun _ j _ => m' - (intOf j).toNat)
  case atStart => exact ⟨0, rfl, by omega, Below.refl _ _⟩
  case round =>
    obtain ⟨s, rfl, hs, hBr⟩ := hrel
    have hsm : s < m' := by omega
    have hsm' : (s : Int) < (m' : Int) := by omega
    obtain ⟨t1, ad, rfl, had, hc1, ok1, g1⟩ := (TA.out.below (Nat.le_refl _) hBr).at_ HT.out hsm
    obtain ⟨t2, ad', rfl, had', hc2, ok2, g2⟩ := (TB.out.below (Nat.le_refl _) hBr).at_ HT'.out hsm
    have SH := Lw.shp_at HSH.out s
    have NOs := fun h => HNO.out s h
    obtain ⟨⟨r1A, r1n, r1c, r1z⟩, hr1⟩ : ∃ z, T[s] = z := ⟨_, rfl⟩
    obtain ⟨⟨r2A, r2n, r2c, r2z⟩, hr2⟩ : ∃ z, T'[s] = z := ⟨_, rfl⟩
    rw [hr1] at hc1 ok1 g1
    rw [hr2] at hc2 ok2 g2
    clear hr1 hr2
    simp only at hc1 hc2
    have s0 : (0 : Int) ≤ (s : Int) := by omega
    have hsr := hBr.size
    have hadb : (ad.add s).block < wr.heap.size := by rw [Lw.add_block]; exact had
    have hadb' : (ad'.add s).block < wr.heap.size := by rw [Lw.add_block]; exact had'
    rcases r1A with _ | a1
    · have e1 : L[s]? = some none := g1
      have hne : ¬ s = kk := fun e => by rw [e] at e1; rw [HX.out] at e1; cases e1
      have hnil : (!(none : Option Addr).isNone) = false := rfl
      clear SH NOs g1 g2 e1 ok1 ok2
      go_wp2_with fail
      refine wp_region_held_drew (S := Lw.Sm wr) (by kernel_rfl) (Lw.sm_drew wr) (fun hHeld => ?_)
      (refine Lw.take1 (i := 0) (v := ?_) rfl (by kernel_rfl) (by kernel_rfl) (by kernel_rfl) (fun _ _ _ h => h) (Or.inl ⟨by rfl, ?_⟩) (by assumption) ?_; rotate_left 1; (focus (intro wS hSw; obtain ⟨hS1, hS2, hS3, hS4⟩ := hSw; go_simp <;> with_reducible rfl)); (try simp only [Act.put, List.setIfInBounds_toArray, List.set_cons_zero, List.set_cons_succ]))
      (refine Lw.take1 (i := 1) (v := ?_) rfl (by kernel_rfl) (by kernel_rfl) (by kernel_rfl) (fun _ _ _ h => h) (Or.inl ⟨by rfl, ?_⟩) (by assumption) ?_; rotate_left 1; (focus (intro wS hSw; obtain ⟨hS1, hS2, hS3, hS4⟩ := hSw; go_simp <;> with_reducible rfl)); (try simp only [Act.put, List.setIfInBounds_toArray, List.set_cons_zero, List.set_cons_succ]))
      (refine Lw.take1 (i := 2) (v := ?_) rfl (by kernel_rfl) (by kernel_rfl) (by kernel_rfl) (fun _ _ _ h => h) (Or.inl ⟨by rfl, ?_⟩) (by assumption) ?_; rotate_left 1; (focus (intro wS hSw; obtain ⟨hS1, hS2, hS3, hS4⟩ := hSw; go_simp <;> with_reducible rfl)); (try simp only [Act.put, List.setIfInBounds_toArray, List.set_cons_zero, List.set_cons_succ]))
      (refine Lw.take1 (i := 3) (v := ?_) rfl (by kernel_rfl) (by kernel_rfl) (by kernel_rfl) (fun _ _ _ h => h) (Or.inl ⟨by rfl, ?_⟩) (by assumption) ?_; rotate_left 1; (focus (intro wS hSw; obtain ⟨hS1, hS2, hS3, hS4⟩ := hSw; go_simp <;> with_reducible rfl)); (try simp only [Act.put, List.setIfInBounds_toArray, List.set_cons_zero, List.set_cons_succ]))
      (refine Lw.take1 (i := 4) (v := ?_) rfl (by kernel_rfl) (by kernel_rfl) (by kernel_rfl) (fun _ _ _ h => h) (Or.inl ⟨by rfl, ?_⟩) (by assumption) ?_; rotate_left 1; (focus (intro wS hSw; obtain ⟨hS1, hS2, hS3, hS4⟩ := hSw; go_simp <;> with_reducible rfl)); (try simp only [Act.put, List.setIfInBounds_toArray, List.set_cons_zero, List.set_cons_succ]))
      (refine Lw.take1 (i := 5) (v := ?_) rfl (by kernel_rfl) (by kernel_rfl) (by kernel_rfl) (fun _ _ _ h => h) (Or.inl ⟨by rfl, ?_⟩) (by assumption) ?_; rotate_left 1; (focus (intro wS hSw; obtain ⟨hS1, hS2, hS3, hS4⟩ := hSw; go_simp <;> with_reducible rfl)); (try simp only [Act.put, List.setIfInBounds_toArray, List.set_cons_zero, List.set_cons_succ]))
      (refine Lw.take1 (i := 6) (v := undef) rfl (by kernel_rfl) (by kernel_rfl) (by kernel_rfl) (fun _ _ _ h => h) (Or.inr ⟨by rfl, rfl⟩) (by assumption) ?_; (try simp only [Act.put, List.setIfInBounds_toArray, List.set_cons_zero, List.set_cons_succ]))
      (refine Lw.take1 (i := 7) (v := undef) rfl (by kernel_rfl) (by kernel_rfl) (by kernel_rfl) (fun _ _ _ h => h) (Or.inr ⟨by rfl, rfl⟩) (by assumption) ?_; (try simp only [Act.put, List.setIfInBounds_toArray, List.set_cons_zero, List.set_cons_succ]))
      (refine Lw.take1 (i := 8) (v := undef) rfl (by kernel_rfl) (by kernel_rfl) (by kernel_rfl) (fun _ _ _ h => h) (Or.inr ⟨by rfl, rfl⟩) (by assumption) ?_; (try simp only [Act.put, List.setIfInBounds_toArray, List.set_cons_zero, List.set_cons_succ]))
      (refine Lw.take1 (i := 9) (v := undef) rfl (by kernel_rfl) (by kernel_rfl) (by kernel_rfl) (fun _ _ _ h => h) (Or.inr ⟨by rfl, rfl⟩) (by assumption) ?_; (try simp only [Act.put, List.setIfInBounds_toArray, List.set_cons_zero, List.set_cons_succ]))
      (refine Lw.take1 (i := 10) (v := undef) rfl (by kernel_rfl) (by kernel_rfl) (by kernel_rfl) (fun _ _ _ h => h) (Or.inr ⟨by rfl, rfl⟩) (by assumption) ?_; (try simp only [Act.put, List.setIfInBounds_toArray, List.set_cons_zero, List.set_cons_succ]))
      (refine Lw.take1 (i := 11) (v := undef) rfl (by kernel_rfl) (by kernel_rfl) (by kernel_rfl) (fun _ _ _ h => h) (Or.inr ⟨by rfl, rfl⟩) (by assumption) ?_; (try simp only [Act.put, List.setIfInBounds_toArray, List.set_cons_zero, List.set_cons_succ]))
      (refine Lw.take1 (i := 12) (v := undef) rfl (by kernel_rfl) (by kernel_rfl) (by kernel_rfl) (fun _ _ _ h => h) (Or.inr ⟨by rfl, rfl⟩) (by assumption) ?_; (try simp only [Act.put, List.setIfInBounds_toArray, List.set_cons_zero, List.set_cons_succ]))
      (refine Lw.take1 (i := 13) (v := undef) rfl (by kernel_rfl) (by kernel_rfl) (by kernel_rfl) (fun _ _ _ h => h) (Or.inr ⟨by rfl, rfl⟩) (by assumption) ?_; (try simp only [Act.put, List.setIfInBounds_toArray, List.set_cons_zero, List.set_cons_succ]))
      (refine Lw.take1 (i := 14) (v := undef) rfl (by kernel_rfl) (by kernel_rfl) (by kernel_rfl) (fun _ _ _ h => h) (Or.inr ⟨by rfl, rfl⟩) (by assumption) ?_; (try simp only [Act.put, List.setIfInBounds_toArray, List.set_cons_zero, List.set_cons_succ]))
      (refine Lw.take1 (i := 15) (v := undef) rfl (by kernel_rfl) (by kernel_rfl) (by kernel_rfl) (fun _ _ _ h => h) (Or.inr ⟨by rfl, rfl⟩) (by assumption) ?_; (try simp only [Act.put, List.setIfInBounds_toArray, List.set_cons_zero, List.set_cons_succ]))
      (refine Lw.take1 (i := 16) (v := undef) rfl (by kernel_rfl) (by kernel_rfl) (by kernel_rfl) (fun _ _ _ h => h) (Or.inr ⟨by rfl, rfl⟩) (by assumption) ?_; (try simp only [Act.put, List.setIfInBounds_toArray, List.set_cons_zero, List.set_cons_succ]))
      (refine Lw.take1 (i := 17) (v := ?_) rfl (by kernel_rfl) (by kernel_rfl) (by kernel_rfl) (fun _ _ _ h => h) (Or.inl ⟨by rfl, ?_⟩) (by assumption) ?_; rotate_left 1; (focus (intro wS hSw; obtain ⟨hS1, hS2, hS3, hS4⟩ := hSw; go_simp <;> with_reducible rfl)); (try simp only [Act.put, List.setIfInBounds_toArray, List.set_cons_zero, List.set_cons_succ]))
      refine wpAnyH_done (by kernel_rfl) ?_ _
      go_wp2_with fail
      go_roundw
      case rel => exact ⟨s + 1, by go_num, by omega, Below.drew hBr⟩
      case measure => simp [intOf]; omega
    · have e1 : L[s]? = some (some r1z) := by rw [g1]; unfold Lw.topt; rw [if_neg (by simp)]
      obtain ⟨y', hy'⟩ := SH.1 ⟨r1z, e1⟩
      rcases r2A with _ | a2
      · have e2 : M[s]? = some none := g2
        rw [e2] at hy'; cases hy'
      have e2 : M[s]? = some (some r2z) := by rw [g2]; unfold Lw.topt; rw [if_neg (by simp)]
      have hnn : (!(some a1 : Option Addr).isNone) = true := rfl
      have H1 := Lib.hid (fun W (hb : Below wr.heap.size wr W) => hash_Of (some a1) r1n r1c r1z W ((show Lw.Rd wr 1 (some a1) r1n (Lw.intsV .u8 r1z) from ok1.1.1).below (Nat.le_refl _) hb) ok1.2.1 ok1.2.2)
      have H2 := Lib.hid (fun W (hb : Below wr.heap.size wr W) => hash_Of (some a2) r2n r2c r2z W ((show Lw.Rd wr 1 (some a2) r2n (Lw.intsV .u8 r2z) from ok2.1.1).below (Nat.le_refl _) hb) ok2.2.1 ok2.2.2)
      have RX := Lib.hid (show Lw.Rd wr 1 (some a1) r1n (Lw.intsV .u8 r1z) from ok1.1.1)
      have RY := Lib.hid (show Lw.Rd wr 1 (some a2) r2n (Lw.intsV .u8 r2z) from ok2.1.1)
      have KE : Hid (Lw.hsum r1z = Lw.hsum r2z → s = kk) := fun e => by
        rcases Nat.lt_or_ge s kk with h | h
        · exact absurd ⟨_, _, e1, e2, e⟩ (NOs h)
        · omega
      have KX : Hid (s = kk → r1z = x ∧ r2z = y ∧ Lw.hsum r1z = Lw.hsum r2z) := fun e => by
        rw [e, HX.out] at e1; rw [e, HY.out] at e2
        injection e1 with e1; injection e1 with e1; injection e2 with e2; injection e2 with e2
        exact ⟨e1.symm, e2.symm, by rw [← e1, ← e2]; exact HXY.out⟩
      have KX2 : Hid (s = kk → r1z = x ∧ r2z = y) := fun e => ⟨(KX.out e).1, (KX.out e).2.1⟩
      have KN : Hid (¬ Lw.hsum r1z = Lw.hsum r2z → ¬ s = kk) := fun h e => h (KX.out e).2.2
      clear SH NOs g1 g2 e1 e2 ok1 ok2 hy' KX
      obtain ⟨u1, hu1⟩ : ∃ z, Lw.hsum r1z = z := ⟨_, rfl⟩
      obtain ⟨u2, hu2⟩ : ∃ z, Lw.hsum r2z = z := ⟨_, rfl⟩
      rw [hu1] at H1 KE KN
      rw [hu2] at H2 KE KN
      clear hu1 hu2
      by_cases he : u1 = u2
      · have K1 := Lib.hid (KE.out he)
        have KZ := Lib.hid (KX2.out K1.out)
        have zu : (u1 == u2) = true := by simpa using he
        clear KE KN KX2 he
        go_wp2_with fail
        refine wp_region_held_drew (S := Lw.Sm wr) (by kernel_rfl) (Lw.sm_drew wr) (fun hHeld => ?_)
        (refine Lw.take1 (i := 0) (v := ?_) rfl (by kernel_rfl) (by kernel_rfl) (by kernel_rfl) (fun _ _ _ h => h) (Or.inl ⟨by rfl, ?_⟩) (by assumption) ?_; rotate_left 1; (focus (intro wS hSw; obtain ⟨hS1, hS2, hS3, hS4⟩ := hSw; go_simp <;> with_reducible rfl)); (try simp only [Act.put, List.setIfInBounds_toArray, List.set_cons_zero, List.set_cons_succ]))
        (refine Lw.take1 (i := 1) (v := ?_) rfl (by kernel_rfl) (by kernel_rfl) (by kernel_rfl) (fun _ _ _ h => h) (Or.inl ⟨by rfl, ?_⟩) (by assumption) ?_; rotate_left 1; (focus (intro wS hSw; obtain ⟨hS1, hS2, hS3, hS4⟩ := hSw; go_simp <;> with_reducible rfl)); (try simp only [Act.put, List.setIfInBounds_toArray, List.set_cons_zero, List.set_cons_succ]))
        (refine Lw.take1 (i := 2) (v := ?_) rfl (by kernel_rfl) (by kernel_rfl) (by kernel_rfl) (fun _ _ _ h => h) (Or.inl ⟨by rfl, ?_⟩) (by assumption) ?_; rotate_left 1; (focus (intro wS hSw; obtain ⟨hS1, hS2, hS3, hS4⟩ := hSw; go_simp <;> with_reducible rfl)); (try simp only [Act.put, List.setIfInBounds_toArray, List.set_cons_zero, List.set_cons_succ]))
        (refine Lw.take1 (i := 3) (v := ?_) rfl (by kernel_rfl) (by kernel_rfl) (by kernel_rfl) (fun _ _ _ h => h) (Or.inl ⟨by rfl, ?_⟩) (by assumption) ?_; rotate_left 1; (focus (intro wS hSw; obtain ⟨hS1, hS2, hS3, hS4⟩ := hSw; go_simp <;> with_reducible rfl)); (try simp only [Act.put, List.setIfInBounds_toArray, List.set_cons_zero, List.set_cons_succ]))
        (refine Lw.take1 (i := 4) (v := ?_) rfl (by kernel_rfl) (by kernel_rfl) (by kernel_rfl) (fun _ _ _ h => h) (Or.inl ⟨by rfl, ?_⟩) (by assumption) ?_; rotate_left 1; (focus (intro wS hSw; obtain ⟨hS1, hS2, hS3, hS4⟩ := hSw; go_simp <;> with_reducible rfl)); (try simp only [Act.put, List.setIfInBounds_toArray, List.set_cons_zero, List.set_cons_succ]))
        (refine Lw.take1 (i := 5) (v := ?_) rfl (by kernel_rfl) (by kernel_rfl) (by kernel_rfl) (fun _ _ _ h => h) (Or.inl ⟨by rfl, ?_⟩) (by assumption) ?_; rotate_left 1; (focus (intro wS hSw; obtain ⟨hS1, hS2, hS3, hS4⟩ := hSw; go_simp <;> with_reducible rfl)); (try simp only [Act.put, List.setIfInBounds_toArray, List.set_cons_zero, List.set_cons_succ]))
        (refine Lw.take1 (i := 6) (v := ?_) rfl (by kernel_rfl) (by kernel_rfl) (by kernel_rfl) (fun _ _ _ h => h) (Or.inl ⟨by rfl, ?_⟩) (by assumption) ?_; rotate_left 1; (focus (intro wS hSw; obtain ⟨hS1, hS2, hS3, hS4⟩ := hSw; go_simp <;> with_reducible rfl)); (try simp only [Act.put, List.setIfInBounds_toArray, List.set_cons_zero, List.set_cons_succ]))
        (refine Lw.take1 (i := 7) (v := ?_) rfl (by kernel_rfl) (by kernel_rfl) (by kernel_rfl) (fun _ _ _ h => h) (Or.inl ⟨by rfl, ?_⟩) (by assumption) ?_; rotate_left 1; (focus (intro wS hSw; obtain ⟨hS1, hS2, hS3, hS4⟩ := hSw; go_simp <;> with_reducible rfl)); (try simp only [Act.put, List.setIfInBounds_toArray, List.set_cons_zero, List.set_cons_succ]))
        (refine Lw.take1 (i := 8) (v := ?_) rfl (by kernel_rfl) (by kernel_rfl) (by kernel_rfl) (fun _ _ _ h => h) (Or.inl ⟨by rfl, ?_⟩) (by assumption) ?_; rotate_left 1; (focus (intro wS hSw; obtain ⟨hS1, hS2, hS3, hS4⟩ := hSw; go_simp <;> with_reducible rfl)); (try simp only [Act.put, List.setIfInBounds_toArray, List.set_cons_zero, List.set_cons_succ]))
        (refine Lw.take1 (i := 9) (v := ?_) rfl (by kernel_rfl) (by kernel_rfl) (by kernel_rfl) (fun _ _ _ h => h) (Or.inl ⟨by rfl, ?_⟩) (by assumption) ?_; rotate_left 1; (focus (intro wS hSw; obtain ⟨hS1, hS2, hS3, hS4⟩ := hSw; go_simp <;> with_reducible rfl)); (try simp only [Act.put, List.setIfInBounds_toArray, List.set_cons_zero, List.set_cons_succ]))
        (refine Lw.take1 (i := 11) (v := ?_) rfl (by kernel_rfl) (by kernel_rfl) (by kernel_rfl) (fun _ _ _ h => h) (Or.inl ⟨by rfl, ?_⟩) (by assumption) ?_; rotate_left 1; (focus (intro wS hSw; obtain ⟨hS1, hS2, hS3, hS4⟩ := hSw; go_simp <;> with_reducible rfl)); (try simp only [Act.put, List.setIfInBounds_toArray, List.set_cons_zero, List.set_cons_succ]))
        (refine Lw.take1 (i := 12) (v := ?_) rfl (by kernel_rfl) (by kernel_rfl) (by kernel_rfl) (fun _ _ _ h => h) (Or.inl ⟨by rfl, ?_⟩) (by assumption) ?_; rotate_left 1; (focus (intro wS hSw; obtain ⟨hS1, hS2, hS3, hS4⟩ := hSw; go_simp <;> with_reducible rfl)); (try simp only [Act.put, List.setIfInBounds_toArray, List.set_cons_zero, List.set_cons_succ]))
        (refine Lw.take1 (i := 13) (v := ?_) rfl (by kernel_rfl) (by kernel_rfl) (by kernel_rfl) (fun _ _ _ h => h) (Or.inl ⟨by rfl, ?_⟩) (by assumption) ?_; rotate_left 1; (focus (intro wS hSw; obtain ⟨hS1, hS2, hS3, hS4⟩ := hSw; go_simp <;> with_reducible rfl)); (try simp only [Act.put, List.setIfInBounds_toArray, List.set_cons_zero, List.set_cons_succ]))
        (refine Lw.take1 (i := 14) (v := ?_) rfl (by kernel_rfl) (by kernel_rfl) (by kernel_rfl) (fun _ _ _ h => h) (Or.inl ⟨by rfl, ?_⟩) (by assumption) ?_; rotate_left 1; (focus (intro wS hSw; obtain ⟨hS1, hS2, hS3, hS4⟩ := hSw; go_simp <;> with_reducible rfl)); (try simp only [Act.put, List.setIfInBounds_toArray, List.set_cons_zero, List.set_cons_succ]))
        (refine wpAnyH_ready (rs := [10]) (by kernel_rfl) (by simp) ?_; refine Lw.cons1 (i := 10) rfl (fun K hK => ?_) AllReadyH.nil; go_simp; go_at_call 53; (with_reducible refine (H1.out _ (Below.drew (Below.refl _ _))).mono ?_); rintro e w7 ⟨rfl, hb7⟩; refine hK.out _ _ ?_ (fun hHeld => ?_); (focus exact Lw.sm_keep (Lw.sm_drew wr) hb7); clear hK K; (try simp only [Act.put, List.setIfInBounds_toArray, List.set_cons_zero, List.set_cons_succ]))
        have hS7 := Lw.sm_keep (Lw.sm_drew wr) hb7
        (refine wpAnyH_ready (rs := [15]) (by kernel_rfl) (by simp) ?_; refine Lw.cons1 (i := 15) rfl (fun K hK => ?_) AllReadyH.nil; go_simp; go_at_call 53; (with_reducible refine (H2.out _ (Lw.sm_bel hS7)).mono ?_); rintro e w8 ⟨rfl, hb8⟩; refine hK.out _ _ ?_ (fun hHeld => ?_); (focus exact Lw.sm_keep hS7 hb8); clear hK K; (try simp only [Act.put, List.setIfInBounds_toArray, List.set_cons_zero, List.set_cons_succ]))
        have hS8 := Lw.sm_keep hS7 hb8
        (refine Lw.take1 (i := 16) (v := ?_) rfl (by kernel_rfl) (by kernel_rfl) (by kernel_rfl) (fun _ _ _ h => h) (Or.inl ⟨by rfl, ?_⟩) (by assumption) ?_; rotate_left 1; (focus (intro wS hSw; obtain ⟨hS1, hS2, hS3, hS4⟩ := hSw; go_simp <;> with_reducible rfl)); (try simp only [Act.put, List.setIfInBounds_toArray, List.set_cons_zero, List.set_cons_succ]))
        (refine Lw.take1 (i := 17) (v := ?_) rfl (by kernel_rfl) (by kernel_rfl) (by kernel_rfl) (fun _ _ _ h => h) (Or.inl ⟨by rfl, ?_⟩) (by assumption) ?_; rotate_left 1; (focus (intro wS hSw; obtain ⟨hS1, hS2, hS3, hS4⟩ := hSw; go_simp <;> with_reducible rfl)); (try simp only [Act.put, List.setIfInBounds_toArray, List.set_cons_zero, List.set_cons_succ]))
        refine wpAnyH_done (by kernel_rfl) ?_ _
        clear hHeld
        go_wp2_with fail
        refine wp_region_held_drew (S := Lw.Sm wr) (by kernel_rfl) (Lw.sm_drew' hS8) (fun hHeld => ?_)
        (refine Lw.take1 (i := 0) (v := ?_) rfl (by kernel_rfl) (by kernel_rfl) (by kernel_rfl) (fun _ _ _ h => h) (Or.inl ⟨by rfl, ?_⟩) (by assumption) ?_; rotate_left 1; (focus (intro wS hSw; obtain ⟨hS1, hS2, hS3, hS4⟩ := hSw; go_simp <;> with_reducible rfl)); (try simp only [Act.put, List.setIfInBounds_toArray, List.set_cons_zero, List.set_cons_succ]))
        (refine Lw.take1 (i := 1) (v := ?_) rfl (by kernel_rfl) (by kernel_rfl) (by kernel_rfl) (fun _ _ _ h => h) (Or.inl ⟨by rfl, ?_⟩) (by assumption) ?_; rotate_left 1; (focus (intro wS hSw; obtain ⟨hS1, hS2, hS3, hS4⟩ := hSw; go_simp <;> with_reducible rfl)); (try simp only [Act.put, List.setIfInBounds_toArray, List.set_cons_zero, List.set_cons_succ]))
        (refine Lw.take1 (i := 2) (v := ?_) rfl (by kernel_rfl) (by kernel_rfl) (by kernel_rfl) (fun _ _ _ h => h) (Or.inl ⟨by rfl, ?_⟩) (by assumption) ?_; rotate_left 1; (focus (intro wS hSw; obtain ⟨hS1, hS2, hS3, hS4⟩ := hSw; go_simp <;> with_reducible rfl)); (try simp only [Act.put, List.setIfInBounds_toArray, List.set_cons_zero, List.set_cons_succ]))
        (refine Lw.take1 (i := 3) (v := ?_) rfl (by kernel_rfl) (by kernel_rfl) (by kernel_rfl) (fun _ _ _ h => h) (Or.inl ⟨by rfl, ?_⟩) (by assumption) ?_; rotate_left 1; (focus (intro wS hSw; obtain ⟨hS1, hS2, hS3, hS4⟩ := hSw; go_simp <;> with_reducible rfl)); (try simp only [Act.put, List.setIfInBounds_toArray, List.set_cons_zero, List.set_cons_succ]))
        (refine Lw.take1 (i := 4) (v := ?_) rfl (by kernel_rfl) (by kernel_rfl) (by kernel_rfl) (fun _ _ _ h => h) (Or.inl ⟨by rfl, ?_⟩) (by assumption) ?_; rotate_left 1; (focus (intro wS hSw; obtain ⟨hS1, hS2, hS3, hS4⟩ := hSw; go_simp <;> with_reducible rfl)); (try simp only [Act.put, List.setIfInBounds_toArray, List.set_cons_zero, List.set_cons_succ]))
        (refine Lw.take1 (i := 5) (v := ?_) rfl (by kernel_rfl) (by kernel_rfl) (by kernel_rfl) (fun _ _ _ h => h) (Or.inl ⟨by rfl, ?_⟩) (by assumption) ?_; rotate_left 1; (focus (intro wS hSw; obtain ⟨hS1, hS2, hS3, hS4⟩ := hSw; go_simp <;> with_reducible rfl)); (try simp only [Act.put, List.setIfInBounds_toArray, List.set_cons_zero, List.set_cons_succ]))
        (refine Lw.take1 (i := 6) (v := ?_) rfl (by kernel_rfl) (by kernel_rfl) (by kernel_rfl) (fun _ _ _ h => h) (Or.inl ⟨by rfl, ?_⟩) (by assumption) ?_; rotate_left 1; (focus (intro wS hSw; obtain ⟨hS1, hS2, hS3, hS4⟩ := hSw; go_simp <;> with_reducible rfl)); (try simp only [Act.put, List.setIfInBounds_toArray, List.set_cons_zero, List.set_cons_succ]))
        (refine Lw.take1 (i := 7) (v := ?_) rfl (by kernel_rfl) (by kernel_rfl) (by kernel_rfl) (fun _ _ _ h => h) (Or.inl ⟨by rfl, ?_⟩) (by assumption) ?_; rotate_left 1; (focus (intro wS hSw; obtain ⟨hS1, hS2, hS3, hS4⟩ := hSw; go_simp <;> with_reducible rfl)); (try simp only [Act.put, List.setIfInBounds_toArray, List.set_cons_zero, List.set_cons_succ]))
        (refine Lw.take1 (i := 8) (v := ?_) rfl (by kernel_rfl) (by kernel_rfl) (by kernel_rfl) (fun _ _ _ h => h) (Or.inl ⟨by rfl, ?_⟩) (by assumption) ?_; rotate_left 1; (focus (intro wS hSw; obtain ⟨hS1, hS2, hS3, hS4⟩ := hSw; go_simp <;> with_reducible rfl)); (try simp only [Act.put, List.setIfInBounds_toArray, List.set_cons_zero, List.set_cons_succ]))
        (refine Lw.take1 (i := 9) (v := ?_) rfl (by kernel_rfl) (by kernel_rfl) (by kernel_rfl) (fun _ _ _ h => h) (Or.inl ⟨by rfl, ?_⟩) (by assumption) ?_; rotate_left 1; (focus (intro wS hSw; obtain ⟨hS1, hS2, hS3, hS4⟩ := hSw; go_simp <;> with_reducible rfl)); (try simp only [Act.put, List.setIfInBounds_toArray, List.set_cons_zero, List.set_cons_succ]))
        (refine Lw.take1 (i := 10) (v := ?_) rfl (by kernel_rfl) (by kernel_rfl) (by kernel_rfl) (fun _ _ _ h => h) (Or.inl ⟨by rfl, ?_⟩) (by assumption) ?_; rotate_left 1; (focus (intro wS hSw; obtain ⟨hS1, hS2, hS3, hS4⟩ := hSw; go_simp <;> with_reducible rfl)); (try simp only [Act.put, List.setIfInBounds_toArray, List.set_cons_zero, List.set_cons_succ]))
        refine wpAnyH_done (by kernel_rfl) ?_ _
        go_wp2_with fail
        go_ret3
        obtain ⟨rfl, rfl⟩ := KZ.out
        exact ⟨_, _, _, _, _, _, rfl, RX.out.below (Nat.le_refl _) (Below.drew hS8.2.2.2), RY.out.below (Nat.le_refl _) (Below.drew hS8.2.2.2), Lw.bt hB6 (Lw.bt hBr (Below.drew hS8.2.2.2))⟩
      · have K1 := Lib.hid (KN.out he)
        have zu : (u1 == u2) = false := by simpa using he
        have hsk : s < kk := by have := K1.out; omega
        clear KE KN KX2 he
        go_wp2_with fail
        refine wp_region_held_drew (S := Lw.Sm wr) (by kernel_rfl) (Lw.sm_drew wr) (fun hHeld => ?_)
        (refine Lw.take1 (i := 0) (v := ?_) rfl (by kernel_rfl) (by kernel_rfl) (by kernel_rfl) (fun _ _ _ h => h) (Or.inl ⟨by rfl, ?_⟩) (by assumption) ?_; rotate_left 1; (focus (intro wS hSw; obtain ⟨hS1, hS2, hS3, hS4⟩ := hSw; go_simp <;> with_reducible rfl)); (try simp only [Act.put, List.setIfInBounds_toArray, List.set_cons_zero, List.set_cons_succ]))
        (refine Lw.take1 (i := 1) (v := ?_) rfl (by kernel_rfl) (by kernel_rfl) (by kernel_rfl) (fun _ _ _ h => h) (Or.inl ⟨by rfl, ?_⟩) (by assumption) ?_; rotate_left 1; (focus (intro wS hSw; obtain ⟨hS1, hS2, hS3, hS4⟩ := hSw; go_simp <;> with_reducible rfl)); (try simp only [Act.put, List.setIfInBounds_toArray, List.set_cons_zero, List.set_cons_succ]))
        (refine Lw.take1 (i := 2) (v := ?_) rfl (by kernel_rfl) (by kernel_rfl) (by kernel_rfl) (fun _ _ _ h => h) (Or.inl ⟨by rfl, ?_⟩) (by assumption) ?_; rotate_left 1; (focus (intro wS hSw; obtain ⟨hS1, hS2, hS3, hS4⟩ := hSw; go_simp <;> with_reducible rfl)); (try simp only [Act.put, List.setIfInBounds_toArray, List.set_cons_zero, List.set_cons_succ]))
        (refine Lw.take1 (i := 3) (v := ?_) rfl (by kernel_rfl) (by kernel_rfl) (by kernel_rfl) (fun _ _ _ h => h) (Or.inl ⟨by rfl, ?_⟩) (by assumption) ?_; rotate_left 1; (focus (intro wS hSw; obtain ⟨hS1, hS2, hS3, hS4⟩ := hSw; go_simp <;> with_reducible rfl)); (try simp only [Act.put, List.setIfInBounds_toArray, List.set_cons_zero, List.set_cons_succ]))
        (refine Lw.take1 (i := 4) (v := ?_) rfl (by kernel_rfl) (by kernel_rfl) (by kernel_rfl) (fun _ _ _ h => h) (Or.inl ⟨by rfl, ?_⟩) (by assumption) ?_; rotate_left 1; (focus (intro wS hSw; obtain ⟨hS1, hS2, hS3, hS4⟩ := hSw; go_simp <;> with_reducible rfl)); (try simp only [Act.put, List.setIfInBounds_toArray, List.set_cons_zero, List.set_cons_succ]))
        (refine Lw.take1 (i := 5) (v := ?_) rfl (by kernel_rfl) (by kernel_rfl) (by kernel_rfl) (fun _ _ _ h => h) (Or.inl ⟨by rfl, ?_⟩) (by assumption) ?_; rotate_left 1; (focus (intro wS hSw; obtain ⟨hS1, hS2, hS3, hS4⟩ := hSw; go_simp <;> with_reducible rfl)); (try simp only [Act.put, List.setIfInBounds_toArray, List.set_cons_zero, List.set_cons_succ]))
        (refine Lw.take1 (i := 6) (v := ?_) rfl (by kernel_rfl) (by kernel_rfl) (by kernel_rfl) (fun _ _ _ h => h) (Or.inl ⟨by rfl, ?_⟩) (by assumption) ?_; rotate_left 1; (focus (intro wS hSw; obtain ⟨hS1, hS2, hS3, hS4⟩ := hSw; go_simp <;> with_reducible rfl)); (try simp only [Act.put, List.setIfInBounds_toArray, List.set_cons_zero, List.set_cons_succ]))
        (refine Lw.take1 (i := 7) (v := ?_) rfl (by kernel_rfl) (by kernel_rfl) (by kernel_rfl) (fun _ _ _ h => h) (Or.inl ⟨by rfl, ?_⟩) (by assumption) ?_; rotate_left 1; (focus (intro wS hSw; obtain ⟨hS1, hS2, hS3, hS4⟩ := hSw; go_simp <;> with_reducible rfl)); (try simp only [Act.put, List.setIfInBounds_toArray, List.set_cons_zero, List.set_cons_succ]))
        (refine Lw.take1 (i := 8) (v := ?_) rfl (by kernel_rfl) (by kernel_rfl) (by kernel_rfl) (fun _ _ _ h => h) (Or.inl ⟨by rfl, ?_⟩) (by assumption) ?_; rotate_left 1; (focus (intro wS hSw; obtain ⟨hS1, hS2, hS3, hS4⟩ := hSw; go_simp <;> with_reducible rfl)); (try simp only [Act.put, List.setIfInBounds_toArray, List.set_cons_zero, List.set_cons_succ]))
        (refine Lw.take1 (i := 9) (v := ?_) rfl (by kernel_rfl) (by kernel_rfl) (by kernel_rfl) (fun _ _ _ h => h) (Or.inl ⟨by rfl, ?_⟩) (by assumption) ?_; rotate_left 1; (focus (intro wS hSw; obtain ⟨hS1, hS2, hS3, hS4⟩ := hSw; go_simp <;> with_reducible rfl)); (try simp only [Act.put, List.setIfInBounds_toArray, List.set_cons_zero, List.set_cons_succ]))
        (refine Lw.take1 (i := 11) (v := ?_) rfl (by kernel_rfl) (by kernel_rfl) (by kernel_rfl) (fun _ _ _ h => h) (Or.inl ⟨by rfl, ?_⟩) (by assumption) ?_; rotate_left 1; (focus (intro wS hSw; obtain ⟨hS1, hS2, hS3, hS4⟩ := hSw; go_simp <;> with_reducible rfl)); (try simp only [Act.put, List.setIfInBounds_toArray, List.set_cons_zero, List.set_cons_succ]))
        (refine Lw.take1 (i := 12) (v := ?_) rfl (by kernel_rfl) (by kernel_rfl) (by kernel_rfl) (fun _ _ _ h => h) (Or.inl ⟨by rfl, ?_⟩) (by assumption) ?_; rotate_left 1; (focus (intro wS hSw; obtain ⟨hS1, hS2, hS3, hS4⟩ := hSw; go_simp <;> with_reducible rfl)); (try simp only [Act.put, List.setIfInBounds_toArray, List.set_cons_zero, List.set_cons_succ]))
        (refine Lw.take1 (i := 13) (v := ?_) rfl (by kernel_rfl) (by kernel_rfl) (by kernel_rfl) (fun _ _ _ h => h) (Or.inl ⟨by rfl, ?_⟩) (by assumption) ?_; rotate_left 1; (focus (intro wS hSw; obtain ⟨hS1, hS2, hS3, hS4⟩ := hSw; go_simp <;> with_reducible rfl)); (try simp only [Act.put, List.setIfInBounds_toArray, List.set_cons_zero, List.set_cons_succ]))
        (refine Lw.take1 (i := 14) (v := ?_) rfl (by kernel_rfl) (by kernel_rfl) (by kernel_rfl) (fun _ _ _ h => h) (Or.inl ⟨by rfl, ?_⟩) (by assumption) ?_; rotate_left 1; (focus (intro wS hSw; obtain ⟨hS1, hS2, hS3, hS4⟩ := hSw; go_simp <;> with_reducible rfl)); (try simp only [Act.put, List.setIfInBounds_toArray, List.set_cons_zero, List.set_cons_succ]))
        (refine wpAnyH_ready (rs := [10]) (by kernel_rfl) (by simp) ?_; refine Lw.cons1 (i := 10) rfl (fun K hK => ?_) AllReadyH.nil; go_simp; go_at_call 53; (with_reducible refine (H1.out _ (Below.drew (Below.refl _ _))).mono ?_); rintro e w7 ⟨rfl, hb7⟩; refine hK.out _ _ ?_ (fun hHeld => ?_); (focus exact Lw.sm_keep (Lw.sm_drew wr) hb7); clear hK K; (try simp only [Act.put, List.setIfInBounds_toArray, List.set_cons_zero, List.set_cons_succ]))
        have hS7 := Lw.sm_keep (Lw.sm_drew wr) hb7
        (refine wpAnyH_ready (rs := [15]) (by kernel_rfl) (by simp) ?_; refine Lw.cons1 (i := 15) rfl (fun K hK => ?_) AllReadyH.nil; go_simp; go_at_call 53; (with_reducible refine (H2.out _ (Lw.sm_bel hS7)).mono ?_); rintro e w8 ⟨rfl, hb8⟩; refine hK.out _ _ ?_ (fun hHeld => ?_); (focus exact Lw.sm_keep hS7 hb8); clear hK K; (try simp only [Act.put, List.setIfInBounds_toArray, List.set_cons_zero, List.set_cons_succ]))
        have hS8 := Lw.sm_keep hS7 hb8
        (refine Lw.take1 (i := 16) (v := ?_) rfl (by kernel_rfl) (by kernel_rfl) (by kernel_rfl) (fun _ _ _ h => h) (Or.inl ⟨by rfl, ?_⟩) (by assumption) ?_; rotate_left 1; (focus (intro wS hSw; obtain ⟨hS1, hS2, hS3, hS4⟩ := hSw; go_simp <;> with_reducible rfl)); (try simp only [Act.put, List.setIfInBounds_toArray, List.set_cons_zero, List.set_cons_succ]))
        (refine Lw.take1 (i := 17) (v := ?_) rfl (by kernel_rfl) (by kernel_rfl) (by kernel_rfl) (fun _ _ _ h => h) (Or.inl ⟨by rfl, ?_⟩) (by assumption) ?_; rotate_left 1; (focus (intro wS hSw; obtain ⟨hS1, hS2, hS3, hS4⟩ := hSw; go_simp <;> with_reducible rfl)); (try simp only [Act.put, List.setIfInBounds_toArray, List.set_cons_zero, List.set_cons_succ]))
        refine wpAnyH_done (by kernel_rfl) ?_ _
        go_wp2_with fail
        go_roundw
        case rel => exact ⟨s + 1, by go_num, by omega, Lw.bt hBr hS8.2.2.2⟩
        case measure => simp [intOf]; omega
end Go.Proofs.Ytnlbnadjolfjpaa

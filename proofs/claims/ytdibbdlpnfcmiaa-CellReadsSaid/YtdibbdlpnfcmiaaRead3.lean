/- The reference's ReadCell: the four ways; what both test. -/
import Derived.Test.YtdibbdlpnfcmiaaRead2
namespace Lw
open Go Go.RowKit
theorem all_rep : ∀ {z : List Int}, z.all (· == 0) = true → z = List.replicate z.length 0
  | [], _ => rfl
  | x :: z, h => by
    simp only [List.all_cons, Bool.and_eq_true, beq_iff_eq] at h
    rw [List.length_cons, List.replicate_succ, ← all_rep h.2, h.1]
/-- a cell that is made of its body anew is the cell just where its rest is zero -/
theorem read_math {key count : Int} {bs : List Int} {m : Nat} (l : bs.length = 17) (hm : bs[0]? = some (m : Int)) (h14 : m ≤ 14) (h : bs.drop 15 = sumL key count (bs.take 15)) :
    decide (cellL key count ((bs.drop 1).take m) = bs) = ((bs.take 15).drop (1 + m)).all (· == 0) := by
  obtain ⟨b, ts, rfl⟩ : ∃ b ts, bs = b :: ts := by
    cases bs with
    | nil => simp at l
    | cons b ts => exact ⟨b, ts, rfl⟩
  simp at hm; subst hm
  have lt : ts.length = 16 := by simpa using l
  have lb : (ts.take m).length = m := by rw [List.length_take]; omega
  have e15 : ((m : Int) :: ts).take 15 = (m : Int) :: (ts.take m ++ (ts.take 14).drop m) := by
    have : ts.take 14 = (ts.take 14).take m ++ (ts.take 14).drop m := (List.take_append_drop m _).symm
    rw [List.take_succ_cons, this, List.take_take, Nat.min_eq_left h14, List.drop_append_of_le_length (by rw [lb]; omega)]
    simp [lb]
  have ez : (((m : Int) :: ts).take 15).drop (1 + m) = (ts.take 14).drop m := by
    rw [show 1 + m = m + 1 by omega, List.take_succ_cons, List.drop_succ_cons]
  have lz : ((ts.take 14).drop m).length = 14 - m := by rw [List.length_drop, List.length_take]; omega
  rw [ez]
  simp only [List.drop_succ_cons, List.drop_zero]
  have hH : cellH (ts.take m) = (m : Int) :: (ts.take m ++ List.replicate (14 - m) 0) := by unfold cellH; rw [lb]
  cases hz : ((ts.take 14).drop m).all (· == 0)
  · apply decide_eq_false
    intro e
    have e2 : (cellL key count (ts.take m)).take 15 = ((m : Int) :: ts).take 15 := by rw [e]
    unfold cellL at e2
    rw [List.take_append_of_le_length (Nat.le_of_eq (cellH_length (by omega)).symm), List.take_of_length_le (Nat.le_of_eq (cellH_length (by omega))), hH, e15] at e2
    injection e2 with _ e2
    have e3 := List.append_cancel_left e2
    rw [← e3, List.all_eq_false] at hz
    obtain ⟨x, hx, hne⟩ := hz
    exact hne (by simp [(List.mem_replicate.1 hx).2])
  · apply decide_eq_true
    have e3 := all_rep hz
    rw [lz] at e3
    have eH : cellH (ts.take m) = ((m : Int) :: ts).take 15 := by rw [hH, e15, ← e3]
    unfold cellL
    rw [eH, ← h, List.take_append_drop]
end Lw
set_option linter.unusedVariables false
set_option linter.unusedSimpArgs false
namespace Go.Proofs.Ytdibbdlpnfcmiaa
open Go.RowKit
set_option maxHeartbeats 2000000 in
theorem ref_ReadCell_sum (key count : Int) (ad : Addr) (c : Nat) (bs : List Int) (w : World) (R : Lw.Rd w 1 (some ad) 17 (Lw.intsV .u8 bs)) (hy : Lw.Byt bs) (hc : 17 ≤ c) (k1 : 0 ≤ key) (k2 : key < 65536) (c1 : 0 ≤ count) (c2 : count ≤ 2147483648) (h : ¬ bs.drop 15 = Lw.sumL key count (bs.take 15)) :
    Calls Try.prog 31 #[.int .i64 key, .int .i64 count, .slice (some ad) 17 c] w fun e w' => e = .returned (.tuple #[.slice none 0 0, .int .i64 8]) ∧ Below w.heap.size w w' := by
  have l1 : bs.length = 17 := by have := R.1; simpa [Lw.intsV] using this
  have R15 : Lw.Rd w 1 (some ⟨ad.block, ad.off + 15, none⟩) 2 (Lw.intsV .u8 (bs.drop 15)) := Lw.add_succ' ad 14 ▸ (Lw.Rd.drop R (m := 15) (d := 2) rfl)
  have RH : Lw.Rd w 1 (some ad) 15 (Lw.intsV .u8 (bs.take 15)) := Lw.Rd.take R (by decide)
  have hyH : Lw.Byt (bs.take 15) := fun z hz => hy z (List.mem_of_mem_take hz)
  have C := fun (A : Option Addr) (c : Nat) (w : World) R => ref_Sum A (6 + 15) c (Lw.namedL key count ++ bs.take 15) w R ((Lw.namedL_byt _ _).app hyH) (by omega)
  rw [Lw.intsV_app] at C
  obtain ⟨s1, s2⟩ := Lw.hsum_bd (Lw.namedL key count ++ bs.take 15)
  have E2 : Hid (Lw.sumL key count (bs.take 15) = Lw.littleL (Lw.hsum (Lw.namedL key count ++ bs.take 15)) 2) := rfl
  generalize Lw.hsum (Lw.namedL key count ++ bs.take 15) = s at *
  have LT : Hid (∀ w : World, Calls Try.prog 48 #[.int .i64 s, .int .i64 2] w (Lw.OwnRes 5 1 (Lw.intsV .u8 (Lw.littleL s 2)) 2 w)) := fun w => ref_little s 2 w s1 (by omega) (by omega)
  have C := Lib.hid C
  have RH := Lib.hid RH
  have R15 := Lib.hid R15
  have b1 : (15 : Int) ≤ 17 := by decide
  have b2 : (17 : Int) ≤ (c : Int) := by omega
  have b3 : ¬ c = 15 := by omega
  have hd : decide (bs.drop 15 = Lw.sumL key count (bs.take 15)) = false := decide_eq_false h
  have hd := Lib.hid hd
  clear h l1
  go_enter Try.func31, Try.ntmps31
  go_wp2
  refine wp_region_held_drew (S := Lw.Sm w) (by kernel_rfl) (Lw.sm_drew w) (fun hHeld => ?_)
  (refine Lw.take1 (i := 0) (v := ?_) rfl (by kernel_rfl) (by kernel_rfl) (by kernel_rfl) (fun _ _ _ h => h) (Or.inl ⟨by rfl, ?_⟩) (by assumption) ?_; rotate_left 1; (focus (intro wS hSw; obtain ⟨hS1, hS2, hS3, hS4⟩ := hSw; go_simp <;> with_reducible rfl)); (try simp only [Act.put, List.setIfInBounds_toArray, List.set_cons_zero, List.set_cons_succ]))
  (refine Lw.take1 (i := 1) (v := ?_) rfl (by kernel_rfl) (by kernel_rfl) (by kernel_rfl) (fun _ _ _ h => h) (Or.inl ⟨by rfl, ?_⟩) (by assumption) ?_; rotate_left 1; (focus (intro wS hSw; obtain ⟨hS1, hS2, hS3, hS4⟩ := hSw; go_simp <;> with_reducible rfl)); (try simp only [Act.put, List.setIfInBounds_toArray, List.set_cons_zero, List.set_cons_succ]))
  (refine Lw.take1 (i := 2) (v := ?_) rfl (by kernel_rfl) (by kernel_rfl) (by kernel_rfl) (fun _ _ _ h => h) (Or.inl ⟨by rfl, ?_⟩) (by assumption) ?_; rotate_left 1; (focus (intro wS hSw; obtain ⟨hS1, hS2, hS3, hS4⟩ := hSw; go_simp <;> with_reducible rfl)); (try simp only [Act.put, List.setIfInBounds_toArray, List.set_cons_zero, List.set_cons_succ]))
  (refine Lw.take1 (i := 3) (v := ?_) rfl (by kernel_rfl) (by kernel_rfl) (by kernel_rfl) (fun _ _ _ h => h) (Or.inl ⟨by rfl, ?_⟩) (by assumption) ?_; rotate_left 1; (focus (intro wS hSw; obtain ⟨hS1, hS2, hS3, hS4⟩ := hSw; go_simp <;> with_reducible rfl)); (try simp only [Act.put, List.setIfInBounds_toArray, List.set_cons_zero, List.set_cons_succ]))
  (refine Lw.take1 (i := 5) (v := ?_) rfl (by kernel_rfl) (by kernel_rfl) (by kernel_rfl) (fun _ _ _ h => h) (Or.inl ⟨by rfl, ?_⟩) (by assumption) ?_; rotate_left 1; (focus (intro wS hSw; obtain ⟨hS1, hS2, hS3, hS4⟩ := hSw; go_simp <;> with_reducible rfl)); (try simp only [Act.put, List.setIfInBounds_toArray, List.set_cons_zero, List.set_cons_succ]))
  have hS0 := Lw.sm_drew w
  (refine wpAnyH_ready (rs := [4]) (by kernel_rfl) (by simp) ?_; refine Lw.cons1 (i := 4) rfl (fun K hK => ?_) AllReadyH.nil; go_simp; go_at_call 51; (with_reducible refine (ref_named key count _ k1 (by omega) c1 (by omega)).mono ?_); rintro e w1 ⟨A1, d1, rfl, own1, hb1⟩; refine hK.out _ _ ?_ (fun hHeld => ?_); (focus exact Lw.sm_keep hS0 hb1); clear hK K; (try simp only [Act.put, List.setIfInBounds_toArray, List.set_cons_zero, List.set_cons_succ]))
  have hS1 := Lw.sm_keep hS0 hb1
  (refine wpAnyH_ready (rs := [6]) (by kernel_rfl) (by simp) ?_; refine Lw.cons1 (i := 6) rfl (fun K hK => ?_) AllReadyH.nil; refine Lw.step_app elByte rfl _ _ rfl rfl own1 rfl (RH.out.below (Nat.le_refl _) (Lw.sm_bel hS1)) (Lw.intsV_one _ _) (by omega) (Lw.sm_bel hS1) (Nat.le_refl _) hb1.size ?_; intro w2' w2 own2 hb2 _ _; refine hK.out _ _ ?_ (fun hHeld => ?_); (focus exact Lw.sm_of hb2); clear hK K; (try simp only [Act.put, List.setIfInBounds_toArray, List.set_cons_zero, List.set_cons_succ]))
  obtain ⟨A2, d2, rfl, _⟩ := Lw.ownsForm own2
  have hS2 : Lw.Sm w w2 := Lw.sm_of hb2
  (refine wpAnyH_ready (rs := [7]) (by kernel_rfl) (by simp) ?_; refine Lw.cons1 (i := 7) rfl (fun K hK => ?_) AllReadyH.nil; go_simp; go_at_call 14; (with_reducible refine (C.out _ _ _ (Lw.Rd.of_own own2)).mono ?_); rintro e w3 ⟨rfl, hb3⟩; refine hK.out _ _ ?_ (fun hHeld => ?_); (focus exact Lw.sm_keep hS2 hb3); clear hK K; (try simp only [Act.put, List.setIfInBounds_toArray, List.set_cons_zero, List.set_cons_succ]))
  have hS3 := Lw.sm_keep hS2 hb3
  (refine wpAnyH_ready (rs := [8]) (by kernel_rfl) (by simp) ?_; refine Lw.cons1 (i := 8) rfl (fun K hK => ?_) AllReadyH.nil; go_simp; go_at_call 48; (with_reducible refine (LT.out _).mono ?_); rintro e w4 ⟨A4, d4, rfl, own4, hb4⟩; refine hK.out _ _ ?_ (fun hHeld => ?_); (focus exact Lw.sm_keep hS3 hb4); clear hK K; (try simp only [Act.put, List.setIfInBounds_toArray, List.set_cons_zero, List.set_cons_succ]))
  have hS4 := Lw.sm_keep hS3 hb4
  rw [← E2.out] at own4
  (refine wpAnyH_ready (rs := [9]) (by kernel_rfl) (by simp) ?_; refine Lw.cons1 (i := 9) rfl (fun K hK => ?_) AllReadyH.nil; go_simp; go_at_call 17; (with_reducible refine (ref_Bytes _ _ 2 2 _ _ (bs.drop 15) (Lw.sumL key count (bs.take 15)) _ (R15.out.below (Nat.le_refl _) (Lw.sm_bel hS4)) (Lw.Rd.of_own own4) (by decide) (by decide)).mono ?_); rintro e w5 ⟨rfl, hb5⟩; refine hK.out _ _ ?_ (fun hHeld => ?_); (focus exact Lw.sm_keep hS4 hb5); clear hK K; (try simp only [Act.put, List.setIfInBounds_toArray, List.set_cons_zero, List.set_cons_succ]))
  have hS5 := Lw.sm_keep hS4 hb5
  (refine Lw.take1 (i := 10) (v := ?_) rfl (by kernel_rfl) (by kernel_rfl) (by kernel_rfl) (fun _ _ _ h => h) (Or.inl ⟨by rfl, ?_⟩) (by assumption) ?_; rotate_left 1; (focus (intro wS hSw; obtain ⟨hS1, hS2, hS3, hS4⟩ := hSw; go_simp <;> with_reducible rfl)); (try simp only [Act.put, List.setIfInBounds_toArray, List.set_cons_zero, List.set_cons_succ]))
  refine wpAnyH_done (by kernel_rfl) ?_ _
  have hB5 := Lw.sm_bel hS5
  clear hHeld hS0 hS1 hS2 hS3 hS4 hS5 hb1 hb2 hb3 hb4 hb5 own1 own2 own4
  rw [hd.out]
  go_wp2
  go_ret2
  exact ⟨rfl, hB5⟩
set_option maxHeartbeats 2000000 in
theorem ref_ReadCell_big (key count : Int) (ad : Addr) (c : Nat) (bs : List Int) (w : World) (R : Lw.Rd w 1 (some ad) 17 (Lw.intsV .u8 bs)) (hy : Lw.Byt bs) (hc : 17 ≤ c) (k1 : 0 ≤ key) (k2 : key < 65536) (c1 : 0 ≤ count) (c2 : count ≤ 2147483648) (h : bs.drop 15 = Lw.sumL key count (bs.take 15)) (m : Nat) (hm : bs[0]? = some (m : Int)) (hm14 : 14 < m) :
    Calls Try.prog 31 #[.int .i64 key, .int .i64 count, .slice (some ad) 17 c] w fun e w' => e = .returned (.tuple #[.slice none 0 0, .int .i64 4]) ∧ Below w.heap.size w w' := by
  have l1 : bs.length = 17 := by have := R.1; simpa [Lw.intsV] using this
  have R15 : Lw.Rd w 1 (some ⟨ad.block, ad.off + 15, none⟩) 2 (Lw.intsV .u8 (bs.drop 15)) := Lw.add_succ' ad 14 ▸ (Lw.Rd.drop R (m := 15) (d := 2) rfl)
  have RH : Lw.Rd w 1 (some ad) 15 (Lw.intsV .u8 (bs.take 15)) := Lw.Rd.take R (by decide)
  have hyH : Lw.Byt (bs.take 15) := fun z hz => hy z (List.mem_of_mem_take hz)
  have C := fun (A : Option Addr) (c : Nat) (w : World) R => ref_Sum A (6 + 15) c (Lw.namedL key count ++ bs.take 15) w R ((Lw.namedL_byt _ _).app hyH) (by omega)
  rw [Lw.intsV_app] at C
  obtain ⟨s1, s2⟩ := Lw.hsum_bd (Lw.namedL key count ++ bs.take 15)
  have E2 : Hid (Lw.sumL key count (bs.take 15) = Lw.littleL (Lw.hsum (Lw.namedL key count ++ bs.take 15)) 2) := rfl
  generalize Lw.hsum (Lw.namedL key count ++ bs.take 15) = s at *
  have LT : Hid (∀ w : World, Calls Try.prog 48 #[.int .i64 s, .int .i64 2] w (Lw.OwnRes 5 1 (Lw.intsV .u8 (Lw.littleL s 2)) 2 w)) := fun w => ref_little s 2 w s1 (by omega) (by omega)
  have C := Lib.hid C
  have RH := Lib.hid RH
  have R15 := Lib.hid R15
  have b1 : (15 : Int) ≤ 17 := by decide
  have b2 : (17 : Int) ≤ (c : Int) := by omega
  have b3 : ¬ c = 15 := by omega
  have hd : decide (bs.drop 15 = Lw.sumL key count (bs.take 15)) = true := decide_eq_true h
  have hd := Lib.hid hd
  have c0 := Lw.rd_first R hm
  obtain ⟨_, eb, hadb, _⟩ := R.2 (by decide)
  obtain rfl : ad = _ := by injection eb
  have mb : (0 : Int) ≤ (m : Int) ∧ (m : Int) < 256 := hy _ (List.mem_of_getElem? hm)
  have mb2 : m < 256 := by omega
  have m1 : (14 : Int) < (m : Int) := by omega
  clear h l1 eb
  go_enter Try.func31, Try.ntmps31
  go_wp2
  refine wp_region_held_drew (S := Lw.Sm w) (by kernel_rfl) (Lw.sm_drew w) (fun hHeld => ?_)
  (refine Lw.take1 (i := 0) (v := ?_) rfl (by kernel_rfl) (by kernel_rfl) (by kernel_rfl) (fun _ _ _ h => h) (Or.inl ⟨by rfl, ?_⟩) (by assumption) ?_; rotate_left 1; (focus (intro wS hSw; obtain ⟨hS1, hS2, hS3, hS4⟩ := hSw; go_simp <;> with_reducible rfl)); (try simp only [Act.put, List.setIfInBounds_toArray, List.set_cons_zero, List.set_cons_succ]))
  (refine Lw.take1 (i := 1) (v := ?_) rfl (by kernel_rfl) (by kernel_rfl) (by kernel_rfl) (fun _ _ _ h => h) (Or.inl ⟨by rfl, ?_⟩) (by assumption) ?_; rotate_left 1; (focus (intro wS hSw; obtain ⟨hS1, hS2, hS3, hS4⟩ := hSw; go_simp <;> with_reducible rfl)); (try simp only [Act.put, List.setIfInBounds_toArray, List.set_cons_zero, List.set_cons_succ]))
  (refine Lw.take1 (i := 2) (v := ?_) rfl (by kernel_rfl) (by kernel_rfl) (by kernel_rfl) (fun _ _ _ h => h) (Or.inl ⟨by rfl, ?_⟩) (by assumption) ?_; rotate_left 1; (focus (intro wS hSw; obtain ⟨hS1, hS2, hS3, hS4⟩ := hSw; go_simp <;> with_reducible rfl)); (try simp only [Act.put, List.setIfInBounds_toArray, List.set_cons_zero, List.set_cons_succ]))
  (refine Lw.take1 (i := 3) (v := ?_) rfl (by kernel_rfl) (by kernel_rfl) (by kernel_rfl) (fun _ _ _ h => h) (Or.inl ⟨by rfl, ?_⟩) (by assumption) ?_; rotate_left 1; (focus (intro wS hSw; obtain ⟨hS1, hS2, hS3, hS4⟩ := hSw; go_simp <;> with_reducible rfl)); (try simp only [Act.put, List.setIfInBounds_toArray, List.set_cons_zero, List.set_cons_succ]))
  (refine Lw.take1 (i := 5) (v := ?_) rfl (by kernel_rfl) (by kernel_rfl) (by kernel_rfl) (fun _ _ _ h => h) (Or.inl ⟨by rfl, ?_⟩) (by assumption) ?_; rotate_left 1; (focus (intro wS hSw; obtain ⟨hS1, hS2, hS3, hS4⟩ := hSw; go_simp <;> with_reducible rfl)); (try simp only [Act.put, List.setIfInBounds_toArray, List.set_cons_zero, List.set_cons_succ]))
  have hS0 := Lw.sm_drew w
  (refine wpAnyH_ready (rs := [4]) (by kernel_rfl) (by simp) ?_; refine Lw.cons1 (i := 4) rfl (fun K hK => ?_) AllReadyH.nil; go_simp; go_at_call 51; (with_reducible refine (ref_named key count _ k1 (by omega) c1 (by omega)).mono ?_); rintro e w1 ⟨A1, d1, rfl, own1, hb1⟩; refine hK.out _ _ ?_ (fun hHeld => ?_); (focus exact Lw.sm_keep hS0 hb1); clear hK K; (try simp only [Act.put, List.setIfInBounds_toArray, List.set_cons_zero, List.set_cons_succ]))
  have hS1 := Lw.sm_keep hS0 hb1
  (refine wpAnyH_ready (rs := [6]) (by kernel_rfl) (by simp) ?_; refine Lw.cons1 (i := 6) rfl (fun K hK => ?_) AllReadyH.nil; refine Lw.step_app elByte rfl _ _ rfl rfl own1 rfl (RH.out.below (Nat.le_refl _) (Lw.sm_bel hS1)) (Lw.intsV_one _ _) (by omega) (Lw.sm_bel hS1) (Nat.le_refl _) hb1.size ?_; intro w2' w2 own2 hb2 _ _; refine hK.out _ _ ?_ (fun hHeld => ?_); (focus exact Lw.sm_of hb2); clear hK K; (try simp only [Act.put, List.setIfInBounds_toArray, List.set_cons_zero, List.set_cons_succ]))
  obtain ⟨A2, d2, rfl, _⟩ := Lw.ownsForm own2
  have hS2 : Lw.Sm w w2 := Lw.sm_of hb2
  (refine wpAnyH_ready (rs := [7]) (by kernel_rfl) (by simp) ?_; refine Lw.cons1 (i := 7) rfl (fun K hK => ?_) AllReadyH.nil; go_simp; go_at_call 14; (with_reducible refine (C.out _ _ _ (Lw.Rd.of_own own2)).mono ?_); rintro e w3 ⟨rfl, hb3⟩; refine hK.out _ _ ?_ (fun hHeld => ?_); (focus exact Lw.sm_keep hS2 hb3); clear hK K; (try simp only [Act.put, List.setIfInBounds_toArray, List.set_cons_zero, List.set_cons_succ]))
  have hS3 := Lw.sm_keep hS2 hb3
  (refine wpAnyH_ready (rs := [8]) (by kernel_rfl) (by simp) ?_; refine Lw.cons1 (i := 8) rfl (fun K hK => ?_) AllReadyH.nil; go_simp; go_at_call 48; (with_reducible refine (LT.out _).mono ?_); rintro e w4 ⟨A4, d4, rfl, own4, hb4⟩; refine hK.out _ _ ?_ (fun hHeld => ?_); (focus exact Lw.sm_keep hS3 hb4); clear hK K; (try simp only [Act.put, List.setIfInBounds_toArray, List.set_cons_zero, List.set_cons_succ]))
  have hS4 := Lw.sm_keep hS3 hb4
  rw [← E2.out] at own4
  (refine wpAnyH_ready (rs := [9]) (by kernel_rfl) (by simp) ?_; refine Lw.cons1 (i := 9) rfl (fun K hK => ?_) AllReadyH.nil; go_simp; go_at_call 17; (with_reducible refine (ref_Bytes _ _ 2 2 _ _ (bs.drop 15) (Lw.sumL key count (bs.take 15)) _ (R15.out.below (Nat.le_refl _) (Lw.sm_bel hS4)) (Lw.Rd.of_own own4) (by decide) (by decide)).mono ?_); rintro e w5 ⟨rfl, hb5⟩; refine hK.out _ _ ?_ (fun hHeld => ?_); (focus exact Lw.sm_keep hS4 hb5); clear hK K; (try simp only [Act.put, List.setIfInBounds_toArray, List.set_cons_zero, List.set_cons_succ]))
  have hS5 := Lw.sm_keep hS4 hb5
  (refine Lw.take1 (i := 10) (v := ?_) rfl (by kernel_rfl) (by kernel_rfl) (by kernel_rfl) (fun _ _ _ h => h) (Or.inl ⟨by rfl, ?_⟩) (by assumption) ?_; rotate_left 1; (focus (intro wS hSw; obtain ⟨hS1, hS2, hS3, hS4⟩ := hSw; go_simp <;> with_reducible rfl)); (try simp only [Act.put, List.setIfInBounds_toArray, List.set_cons_zero, List.set_cons_succ]))
  refine wpAnyH_done (by kernel_rfl) ?_ _
  have hB5 := Lw.sm_bel hS5
  clear hHeld hS0 hS1 hS2 hS3 hS4 hS5 hb1 hb2 hb3 hb4 hb5 own1 own2 own4
  rw [hd.out]
  have d0 : w5.cell? ad = some (.int .u8 (m : Int)) := (hB5.cell hadb).trans c0
  go_wp2
  go_ret2
  exact ⟨rfl, hB5⟩
set_option maxHeartbeats 2000000 in
theorem ref_ReadCell_zero (key count : Int) (ad : Addr) (c : Nat) (bs : List Int) (w : World) (R : Lw.Rd w 1 (some ad) 17 (Lw.intsV .u8 bs)) (hy : Lw.Byt bs) (hc : 17 ≤ c) (k1 : 0 ≤ key) (k2 : key < 65536) (c1 : 0 ≤ count) (c2 : count ≤ 2147483648) (h : bs.drop 15 = Lw.sumL key count (bs.take 15)) (m : Nat) (hm : bs[0]? = some (m : Int)) (hm14 : m ≤ 14) (hz : ((bs.take 15).drop (1 + m)).all (· == 0) = false) :
    Calls Try.prog 31 #[.int .i64 key, .int .i64 count, .slice (some ad) 17 c] w fun e w' => e = .returned (.tuple #[.slice none 0 0, .int .i64 4]) ∧ Below w.heap.size w w' := by
  have l1 : bs.length = 17 := by have := R.1; simpa [Lw.intsV] using this
  have R15 : Lw.Rd w 1 (some ⟨ad.block, ad.off + 15, none⟩) 2 (Lw.intsV .u8 (bs.drop 15)) := Lw.add_succ' ad 14 ▸ (Lw.Rd.drop R (m := 15) (d := 2) rfl)
  have RH : Lw.Rd w 1 (some ad) 15 (Lw.intsV .u8 (bs.take 15)) := Lw.Rd.take R (by decide)
  have hyH : Lw.Byt (bs.take 15) := fun z hz => hy z (List.mem_of_mem_take hz)
  have C := fun (A : Option Addr) (c : Nat) (w : World) R => ref_Sum A (6 + 15) c (Lw.namedL key count ++ bs.take 15) w R ((Lw.namedL_byt _ _).app hyH) (by omega)
  rw [Lw.intsV_app] at C
  obtain ⟨s1, s2⟩ := Lw.hsum_bd (Lw.namedL key count ++ bs.take 15)
  have E2 : Hid (Lw.sumL key count (bs.take 15) = Lw.littleL (Lw.hsum (Lw.namedL key count ++ bs.take 15)) 2) := rfl
  generalize Lw.hsum (Lw.namedL key count ++ bs.take 15) = s at *
  have LT : Hid (∀ w : World, Calls Try.prog 48 #[.int .i64 s, .int .i64 2] w (Lw.OwnRes 5 1 (Lw.intsV .u8 (Lw.littleL s 2)) 2 w)) := fun w => ref_little s 2 w s1 (by omega) (by omega)
  have C := Lib.hid C
  have RH := Lib.hid RH
  have R15 := Lib.hid R15
  have b1 : (15 : Int) ≤ 17 := by decide
  have b2 : (17 : Int) ≤ (c : Int) := by omega
  have b3 : ¬ c = 15 := by omega
  have hd : decide (bs.drop 15 = Lw.sumL key count (bs.take 15)) = true := decide_eq_true h
  have hd := Lib.hid hd
  have c0 := Lw.rd_first R hm
  obtain ⟨_, eb, hadb, _⟩ := R.2 (by decide)
  obtain rfl : ad = _ := by injection eb
  have mb : (0 : Int) ≤ (m : Int) ∧ (m : Int) < 256 := hy _ (List.mem_of_getElem? hm)
  have mb2 : m < 256 := by omega
  have m1 : ¬ (14 : Int) < (m : Int) := by omega
  have q1 : (0 : Int) ≤ 1 + (m : Int) := by omega
  have q3 : (1 + (m : Int)).toNat = 1 + m := by omega
  have q5 : 1 + (m : Int) ≤ (c : Int) := by omega
  have q6 : (1 : Int) ≤ 1 + (m : Int) := by omega
  have RB : Lw.Rd w 1 (some ⟨ad.block, ad.off + 1, none⟩) m (Lw.intsV .u8 ((bs.drop 1).take m)) := Lw.Rd.take (Lw.add_succ' ad 0 ▸ (Lw.Rd.drop R (m := 1) (d := 16) rfl)) (by omega)
  have RB := Lib.hid RB
  have RA := Lib.hid R
  have hyB : Lw.Byt ((bs.drop 1).take m) := fun z hz => hy z (List.mem_of_mem_drop (List.mem_of_mem_take hz))
  have CE := Lib.hid (fun A c w R => ref_Cell key count A m c ((bs.drop 1).take m) w R hyB hm14 k1 k2 c1 c2)
  have MA : Hid (decide (Lw.cellL key count ((bs.drop 1).take m) = bs) = _) := (Lw.read_math l1 hm hm14 h).trans hz
  clear h l1 eb
  go_enter Try.func31, Try.ntmps31
  go_wp2
  refine wp_region_held_drew (S := Lw.Sm w) (by kernel_rfl) (Lw.sm_drew w) (fun hHeld => ?_)
  (refine Lw.take1 (i := 0) (v := ?_) rfl (by kernel_rfl) (by kernel_rfl) (by kernel_rfl) (fun _ _ _ h => h) (Or.inl ⟨by rfl, ?_⟩) (by assumption) ?_; rotate_left 1; (focus (intro wS hSw; obtain ⟨hS1, hS2, hS3, hS4⟩ := hSw; go_simp <;> with_reducible rfl)); (try simp only [Act.put, List.setIfInBounds_toArray, List.set_cons_zero, List.set_cons_succ]))
  (refine Lw.take1 (i := 1) (v := ?_) rfl (by kernel_rfl) (by kernel_rfl) (by kernel_rfl) (fun _ _ _ h => h) (Or.inl ⟨by rfl, ?_⟩) (by assumption) ?_; rotate_left 1; (focus (intro wS hSw; obtain ⟨hS1, hS2, hS3, hS4⟩ := hSw; go_simp <;> with_reducible rfl)); (try simp only [Act.put, List.setIfInBounds_toArray, List.set_cons_zero, List.set_cons_succ]))
  (refine Lw.take1 (i := 2) (v := ?_) rfl (by kernel_rfl) (by kernel_rfl) (by kernel_rfl) (fun _ _ _ h => h) (Or.inl ⟨by rfl, ?_⟩) (by assumption) ?_; rotate_left 1; (focus (intro wS hSw; obtain ⟨hS1, hS2, hS3, hS4⟩ := hSw; go_simp <;> with_reducible rfl)); (try simp only [Act.put, List.setIfInBounds_toArray, List.set_cons_zero, List.set_cons_succ]))
  (refine Lw.take1 (i := 3) (v := ?_) rfl (by kernel_rfl) (by kernel_rfl) (by kernel_rfl) (fun _ _ _ h => h) (Or.inl ⟨by rfl, ?_⟩) (by assumption) ?_; rotate_left 1; (focus (intro wS hSw; obtain ⟨hS1, hS2, hS3, hS4⟩ := hSw; go_simp <;> with_reducible rfl)); (try simp only [Act.put, List.setIfInBounds_toArray, List.set_cons_zero, List.set_cons_succ]))
  (refine Lw.take1 (i := 5) (v := ?_) rfl (by kernel_rfl) (by kernel_rfl) (by kernel_rfl) (fun _ _ _ h => h) (Or.inl ⟨by rfl, ?_⟩) (by assumption) ?_; rotate_left 1; (focus (intro wS hSw; obtain ⟨hS1, hS2, hS3, hS4⟩ := hSw; go_simp <;> with_reducible rfl)); (try simp only [Act.put, List.setIfInBounds_toArray, List.set_cons_zero, List.set_cons_succ]))
  have hS0 := Lw.sm_drew w
  (refine wpAnyH_ready (rs := [4]) (by kernel_rfl) (by simp) ?_; refine Lw.cons1 (i := 4) rfl (fun K hK => ?_) AllReadyH.nil; go_simp; go_at_call 51; (with_reducible refine (ref_named key count _ k1 (by omega) c1 (by omega)).mono ?_); rintro e w1 ⟨A1, d1, rfl, own1, hb1⟩; refine hK.out _ _ ?_ (fun hHeld => ?_); (focus exact Lw.sm_keep hS0 hb1); clear hK K; (try simp only [Act.put, List.setIfInBounds_toArray, List.set_cons_zero, List.set_cons_succ]))
  have hS1 := Lw.sm_keep hS0 hb1
  (refine wpAnyH_ready (rs := [6]) (by kernel_rfl) (by simp) ?_; refine Lw.cons1 (i := 6) rfl (fun K hK => ?_) AllReadyH.nil; refine Lw.step_app elByte rfl _ _ rfl rfl own1 rfl (RH.out.below (Nat.le_refl _) (Lw.sm_bel hS1)) (Lw.intsV_one _ _) (by omega) (Lw.sm_bel hS1) (Nat.le_refl _) hb1.size ?_; intro w2' w2 own2 hb2 _ _; refine hK.out _ _ ?_ (fun hHeld => ?_); (focus exact Lw.sm_of hb2); clear hK K; (try simp only [Act.put, List.setIfInBounds_toArray, List.set_cons_zero, List.set_cons_succ]))
  obtain ⟨A2, d2, rfl, _⟩ := Lw.ownsForm own2
  have hS2 : Lw.Sm w w2 := Lw.sm_of hb2
  (refine wpAnyH_ready (rs := [7]) (by kernel_rfl) (by simp) ?_; refine Lw.cons1 (i := 7) rfl (fun K hK => ?_) AllReadyH.nil; go_simp; go_at_call 14; (with_reducible refine (C.out _ _ _ (Lw.Rd.of_own own2)).mono ?_); rintro e w3 ⟨rfl, hb3⟩; refine hK.out _ _ ?_ (fun hHeld => ?_); (focus exact Lw.sm_keep hS2 hb3); clear hK K; (try simp only [Act.put, List.setIfInBounds_toArray, List.set_cons_zero, List.set_cons_succ]))
  have hS3 := Lw.sm_keep hS2 hb3
  (refine wpAnyH_ready (rs := [8]) (by kernel_rfl) (by simp) ?_; refine Lw.cons1 (i := 8) rfl (fun K hK => ?_) AllReadyH.nil; go_simp; go_at_call 48; (with_reducible refine (LT.out _).mono ?_); rintro e w4 ⟨A4, d4, rfl, own4, hb4⟩; refine hK.out _ _ ?_ (fun hHeld => ?_); (focus exact Lw.sm_keep hS3 hb4); clear hK K; (try simp only [Act.put, List.setIfInBounds_toArray, List.set_cons_zero, List.set_cons_succ]))
  have hS4 := Lw.sm_keep hS3 hb4
  rw [← E2.out] at own4
  (refine wpAnyH_ready (rs := [9]) (by kernel_rfl) (by simp) ?_; refine Lw.cons1 (i := 9) rfl (fun K hK => ?_) AllReadyH.nil; go_simp; go_at_call 17; (with_reducible refine (ref_Bytes _ _ 2 2 _ _ (bs.drop 15) (Lw.sumL key count (bs.take 15)) _ (R15.out.below (Nat.le_refl _) (Lw.sm_bel hS4)) (Lw.Rd.of_own own4) (by decide) (by decide)).mono ?_); rintro e w5 ⟨rfl, hb5⟩; refine hK.out _ _ ?_ (fun hHeld => ?_); (focus exact Lw.sm_keep hS4 hb5); clear hK K; (try simp only [Act.put, List.setIfInBounds_toArray, List.set_cons_zero, List.set_cons_succ]))
  have hS5 := Lw.sm_keep hS4 hb5
  (refine Lw.take1 (i := 10) (v := ?_) rfl (by kernel_rfl) (by kernel_rfl) (by kernel_rfl) (fun _ _ _ h => h) (Or.inl ⟨by rfl, ?_⟩) (by assumption) ?_; rotate_left 1; (focus (intro wS hSw; obtain ⟨hS1, hS2, hS3, hS4⟩ := hSw; go_simp <;> with_reducible rfl)); (try simp only [Act.put, List.setIfInBounds_toArray, List.set_cons_zero, List.set_cons_succ]))
  refine wpAnyH_done (by kernel_rfl) ?_ _
  have hB5 := Lw.sm_bel hS5
  clear hHeld hS0 hS1 hS2 hS3 hS4 hS5 hb1 hb2 hb3 hb4 hb5 own1 own2 own4
  rw [hd.out]
  have d0 : w5.cell? ad = some (.int .u8 (m : Int)) := (hB5.cell hadb).trans c0
  go_wp2_with fail
  refine (CE.out _ _ _ (RB.out.below (Nat.le_refl _) hB5)).mono ?_
  rintro e w6 ⟨A6, d6, rfl, own6, hb6⟩
  go_wp2_with fail
  refine (ref_Bytes _ _ 17 17 _ _ (Lw.cellL key count ((bs.drop 1).take m)) bs _ (Lw.Rd.of_own own6) (RA.out.below (Nat.le_refl _) (Lw.bt hB5 hb6)) (by decide) (by decide)).mono ?_
  rintro e w7 ⟨rfl, hb7⟩
  rw [MA.out]
  have hB7 := Lw.bt (Lw.bt hB5 hb6) hb7
  clear own6 hb6 hb7
  go_wp2_with fail
  go_ret2
  exact ⟨rfl, hB7⟩
set_option maxHeartbeats 2000000 in
theorem ref_ReadCell_ok (key count : Int) (ad : Addr) (c : Nat) (bs : List Int) (w : World) (R : Lw.Rd w 1 (some ad) 17 (Lw.intsV .u8 bs)) (hy : Lw.Byt bs) (hc : 17 ≤ c) (k1 : 0 ≤ key) (k2 : key < 65536) (c1 : 0 ≤ count) (c2 : count ≤ 2147483648) (h : bs.drop 15 = Lw.sumL key count (bs.take 15)) (m : Nat) (hm : bs[0]? = some (m : Int)) (hm14 : m ≤ 14) (hz : ((bs.take 15).drop (1 + m)).all (· == 0) = true) :
    Calls Try.prog 31 #[.int .i64 key, .int .i64 count, .slice (some ad) 17 c] w fun e w' => ∃ A' c', e = .returned (.tuple #[.slice A' m c', .int .i64 0]) ∧ w'.ownsRow w.heap.size 5 1 (.slice A' m c') m (Lw.intsV .u8 ((bs.drop 1).take m)) ∧ Below w.heap.size w w' := by
  have l1 : bs.length = 17 := by have := R.1; simpa [Lw.intsV] using this
  have R15 : Lw.Rd w 1 (some ⟨ad.block, ad.off + 15, none⟩) 2 (Lw.intsV .u8 (bs.drop 15)) := Lw.add_succ' ad 14 ▸ (Lw.Rd.drop R (m := 15) (d := 2) rfl)
  have RH : Lw.Rd w 1 (some ad) 15 (Lw.intsV .u8 (bs.take 15)) := Lw.Rd.take R (by decide)
  have hyH : Lw.Byt (bs.take 15) := fun z hz => hy z (List.mem_of_mem_take hz)
  have C := fun (A : Option Addr) (c : Nat) (w : World) R => ref_Sum A (6 + 15) c (Lw.namedL key count ++ bs.take 15) w R ((Lw.namedL_byt _ _).app hyH) (by omega)
  rw [Lw.intsV_app] at C
  obtain ⟨s1, s2⟩ := Lw.hsum_bd (Lw.namedL key count ++ bs.take 15)
  have E2 : Hid (Lw.sumL key count (bs.take 15) = Lw.littleL (Lw.hsum (Lw.namedL key count ++ bs.take 15)) 2) := rfl
  generalize Lw.hsum (Lw.namedL key count ++ bs.take 15) = s at *
  have LT : Hid (∀ w : World, Calls Try.prog 48 #[.int .i64 s, .int .i64 2] w (Lw.OwnRes 5 1 (Lw.intsV .u8 (Lw.littleL s 2)) 2 w)) := fun w => ref_little s 2 w s1 (by omega) (by omega)
  have C := Lib.hid C
  have RH := Lib.hid RH
  have R15 := Lib.hid R15
  have b1 : (15 : Int) ≤ 17 := by decide
  have b2 : (17 : Int) ≤ (c : Int) := by omega
  have b3 : ¬ c = 15 := by omega
  have hd : decide (bs.drop 15 = Lw.sumL key count (bs.take 15)) = true := decide_eq_true h
  have hd := Lib.hid hd
  have c0 := Lw.rd_first R hm
  obtain ⟨_, eb, hadb, _⟩ := R.2 (by decide)
  obtain rfl : ad = _ := by injection eb
  have mb : (0 : Int) ≤ (m : Int) ∧ (m : Int) < 256 := hy _ (List.mem_of_getElem? hm)
  have mb2 : m < 256 := by omega
  have m1 : ¬ (14 : Int) < (m : Int) := by omega
  have q1 : (0 : Int) ≤ 1 + (m : Int) := by omega
  have q3 : (1 + (m : Int)).toNat = 1 + m := by omega
  have q5 : 1 + (m : Int) ≤ (c : Int) := by omega
  have q6 : (1 : Int) ≤ 1 + (m : Int) := by omega
  have RB : Lw.Rd w 1 (some ⟨ad.block, ad.off + 1, none⟩) m (Lw.intsV .u8 ((bs.drop 1).take m)) := Lw.Rd.take (Lw.add_succ' ad 0 ▸ (Lw.Rd.drop R (m := 1) (d := 16) rfl)) (by omega)
  have RB := Lib.hid RB
  have RA := Lib.hid R
  have hyB : Lw.Byt ((bs.drop 1).take m) := fun z hz => hy z (List.mem_of_mem_drop (List.mem_of_mem_take hz))
  have CE := Lib.hid (fun A c w R => ref_Cell key count A m c ((bs.drop 1).take m) w R hyB hm14 k1 k2 c1 c2)
  have MA : Hid (decide (Lw.cellL key count ((bs.drop 1).take m) = bs) = _) := (Lw.read_math l1 hm hm14 h).trans hz
  clear h l1 eb
  go_enter Try.func31, Try.ntmps31
  go_wp2
  refine wp_region_held_drew (S := Lw.Sm w) (by kernel_rfl) (Lw.sm_drew w) (fun hHeld => ?_)
  (refine Lw.take1 (i := 0) (v := ?_) rfl (by kernel_rfl) (by kernel_rfl) (by kernel_rfl) (fun _ _ _ h => h) (Or.inl ⟨by rfl, ?_⟩) (by assumption) ?_; rotate_left 1; (focus (intro wS hSw; obtain ⟨hS1, hS2, hS3, hS4⟩ := hSw; go_simp <;> with_reducible rfl)); (try simp only [Act.put, List.setIfInBounds_toArray, List.set_cons_zero, List.set_cons_succ]))
  (refine Lw.take1 (i := 1) (v := ?_) rfl (by kernel_rfl) (by kernel_rfl) (by kernel_rfl) (fun _ _ _ h => h) (Or.inl ⟨by rfl, ?_⟩) (by assumption) ?_; rotate_left 1; (focus (intro wS hSw; obtain ⟨hS1, hS2, hS3, hS4⟩ := hSw; go_simp <;> with_reducible rfl)); (try simp only [Act.put, List.setIfInBounds_toArray, List.set_cons_zero, List.set_cons_succ]))
  (refine Lw.take1 (i := 2) (v := ?_) rfl (by kernel_rfl) (by kernel_rfl) (by kernel_rfl) (fun _ _ _ h => h) (Or.inl ⟨by rfl, ?_⟩) (by assumption) ?_; rotate_left 1; (focus (intro wS hSw; obtain ⟨hS1, hS2, hS3, hS4⟩ := hSw; go_simp <;> with_reducible rfl)); (try simp only [Act.put, List.setIfInBounds_toArray, List.set_cons_zero, List.set_cons_succ]))
  (refine Lw.take1 (i := 3) (v := ?_) rfl (by kernel_rfl) (by kernel_rfl) (by kernel_rfl) (fun _ _ _ h => h) (Or.inl ⟨by rfl, ?_⟩) (by assumption) ?_; rotate_left 1; (focus (intro wS hSw; obtain ⟨hS1, hS2, hS3, hS4⟩ := hSw; go_simp <;> with_reducible rfl)); (try simp only [Act.put, List.setIfInBounds_toArray, List.set_cons_zero, List.set_cons_succ]))
  (refine Lw.take1 (i := 5) (v := ?_) rfl (by kernel_rfl) (by kernel_rfl) (by kernel_rfl) (fun _ _ _ h => h) (Or.inl ⟨by rfl, ?_⟩) (by assumption) ?_; rotate_left 1; (focus (intro wS hSw; obtain ⟨hS1, hS2, hS3, hS4⟩ := hSw; go_simp <;> with_reducible rfl)); (try simp only [Act.put, List.setIfInBounds_toArray, List.set_cons_zero, List.set_cons_succ]))
  have hS0 := Lw.sm_drew w
  (refine wpAnyH_ready (rs := [4]) (by kernel_rfl) (by simp) ?_; refine Lw.cons1 (i := 4) rfl (fun K hK => ?_) AllReadyH.nil; go_simp; go_at_call 51; (with_reducible refine (ref_named key count _ k1 (by omega) c1 (by omega)).mono ?_); rintro e w1 ⟨A1, d1, rfl, own1, hb1⟩; refine hK.out _ _ ?_ (fun hHeld => ?_); (focus exact Lw.sm_keep hS0 hb1); clear hK K; (try simp only [Act.put, List.setIfInBounds_toArray, List.set_cons_zero, List.set_cons_succ]))
  have hS1 := Lw.sm_keep hS0 hb1
  (refine wpAnyH_ready (rs := [6]) (by kernel_rfl) (by simp) ?_; refine Lw.cons1 (i := 6) rfl (fun K hK => ?_) AllReadyH.nil; refine Lw.step_app elByte rfl _ _ rfl rfl own1 rfl (RH.out.below (Nat.le_refl _) (Lw.sm_bel hS1)) (Lw.intsV_one _ _) (by omega) (Lw.sm_bel hS1) (Nat.le_refl _) hb1.size ?_; intro w2' w2 own2 hb2 _ _; refine hK.out _ _ ?_ (fun hHeld => ?_); (focus exact Lw.sm_of hb2); clear hK K; (try simp only [Act.put, List.setIfInBounds_toArray, List.set_cons_zero, List.set_cons_succ]))
  obtain ⟨A2, d2, rfl, _⟩ := Lw.ownsForm own2
  have hS2 : Lw.Sm w w2 := Lw.sm_of hb2
  (refine wpAnyH_ready (rs := [7]) (by kernel_rfl) (by simp) ?_; refine Lw.cons1 (i := 7) rfl (fun K hK => ?_) AllReadyH.nil; go_simp; go_at_call 14; (with_reducible refine (C.out _ _ _ (Lw.Rd.of_own own2)).mono ?_); rintro e w3 ⟨rfl, hb3⟩; refine hK.out _ _ ?_ (fun hHeld => ?_); (focus exact Lw.sm_keep hS2 hb3); clear hK K; (try simp only [Act.put, List.setIfInBounds_toArray, List.set_cons_zero, List.set_cons_succ]))
  have hS3 := Lw.sm_keep hS2 hb3
  (refine wpAnyH_ready (rs := [8]) (by kernel_rfl) (by simp) ?_; refine Lw.cons1 (i := 8) rfl (fun K hK => ?_) AllReadyH.nil; go_simp; go_at_call 48; (with_reducible refine (LT.out _).mono ?_); rintro e w4 ⟨A4, d4, rfl, own4, hb4⟩; refine hK.out _ _ ?_ (fun hHeld => ?_); (focus exact Lw.sm_keep hS3 hb4); clear hK K; (try simp only [Act.put, List.setIfInBounds_toArray, List.set_cons_zero, List.set_cons_succ]))
  have hS4 := Lw.sm_keep hS3 hb4
  rw [← E2.out] at own4
  (refine wpAnyH_ready (rs := [9]) (by kernel_rfl) (by simp) ?_; refine Lw.cons1 (i := 9) rfl (fun K hK => ?_) AllReadyH.nil; go_simp; go_at_call 17; (with_reducible refine (ref_Bytes _ _ 2 2 _ _ (bs.drop 15) (Lw.sumL key count (bs.take 15)) _ (R15.out.below (Nat.le_refl _) (Lw.sm_bel hS4)) (Lw.Rd.of_own own4) (by decide) (by decide)).mono ?_); rintro e w5 ⟨rfl, hb5⟩; refine hK.out _ _ ?_ (fun hHeld => ?_); (focus exact Lw.sm_keep hS4 hb5); clear hK K; (try simp only [Act.put, List.setIfInBounds_toArray, List.set_cons_zero, List.set_cons_succ]))
  have hS5 := Lw.sm_keep hS4 hb5
  (refine Lw.take1 (i := 10) (v := ?_) rfl (by kernel_rfl) (by kernel_rfl) (by kernel_rfl) (fun _ _ _ h => h) (Or.inl ⟨by rfl, ?_⟩) (by assumption) ?_; rotate_left 1; (focus (intro wS hSw; obtain ⟨hS1, hS2, hS3, hS4⟩ := hSw; go_simp <;> with_reducible rfl)); (try simp only [Act.put, List.setIfInBounds_toArray, List.set_cons_zero, List.set_cons_succ]))
  refine wpAnyH_done (by kernel_rfl) ?_ _
  have hB5 := Lw.sm_bel hS5
  clear hHeld hS0 hS1 hS2 hS3 hS4 hS5 hb1 hb2 hb3 hb4 hb5 own1 own2 own4
  rw [hd.out]
  have d0 : w5.cell? ad = some (.int .u8 (m : Int)) := (hB5.cell hadb).trans c0
  go_wp2_with fail
  refine (CE.out _ _ _ (RB.out.below (Nat.le_refl _) hB5)).mono ?_
  rintro e w6 ⟨A6, d6, rfl, own6, hb6⟩
  go_wp2_with fail
  refine (ref_Bytes _ _ 17 17 _ _ (Lw.cellL key count ((bs.drop 1).take m)) bs _ (Lw.Rd.of_own own6) (RA.out.below (Nat.le_refl _) (Lw.bt hB5 hb6)) (by decide) (by decide)).mono ?_
  rintro e w7 ⟨rfl, hb7⟩
  rw [MA.out]
  have hB7 := Lw.bt (Lw.bt hB5 hb6) hb7
  clear own6 hb6 hb7
  go_wp2_with (at_builtin; refine Lw.wpList_app elByte rfl (.tmp 41) (.tmp 45) rfl rfl (Lw.own_lit w7 (xs := []) rfl rfl (by decide) (Nat.le_refl _)) rfl ((RB.out.below (Nat.le_refl _) hB7).alloc _) (Lw.intsV_one _ _) (by omega) (Lw.balloc (Below.refl _ _) _) (Nat.le_refl _) (by simp) ?_; intro v8 w8 own8 hb8 _ _)
  go_ret2
  obtain ⟨A8, d8, rfl, _⟩ := Lw.ownsForm own8
  exact ⟨A8, d8, by simp, by simpa using Lw.ownsBase own8 hB7.size, Lw.bt hB7 hb8⟩
end Go.Proofs.Ytdibbdlpnfcmiaa

/- cell.Read: the four ways. -/
import Derived.Test.YtdibbdlpnfcmiaaRead
namespace Lw
open Go Go.RowKit
/-- the first byte, and what stands behind it -/
theorem rd_first {w : World} {ad : Addr} {n : Nat} {bs : List Int} {m : Nat} (R : Rd w 1 (some ad) n (intsV .u8 bs)) (h : bs[0]? = some (m : Int)) : w.cell? ad = some (.int .u8 (m : Int)) := by
  have hl : 0 < bs.length := (List.getElem?_eq_some_iff.1 h).1
  have hn : bs.length = n := by have := R.1; simpa [intsV] using this
  obtain ⟨ad', e, _, hc⟩ := R.2 (by omega)
  injection e with e; subst e
  have := hc 0 (.int .u8 (m : Int)) (by simp [intsV, h])
  rwa [add_zero'] at this
end Lw
set_option linter.unusedVariables false
set_option linter.unusedSimpArgs false
namespace Go.Proofs.Ytdibbdlpnfcmiaa
open Go.RowKit
set_option maxHeartbeats 2000000 in
theorem cell_Read_sum (key count : Int) (ad : Addr) (c : Nat) (bs : List Int) (w : World) (R : Lw.Rd w 1 (some ad) 17 (Lw.intsV .u8 bs)) (hy : Lw.Byt bs) (hc : 17 ≤ c) (k1 : 0 ≤ key) (k2 : key < 65536) (c1 : 0 ≤ count) (c2 : count ≤ 2147483648) (h : ¬ bs.drop 15 = Lw.sumL key count (bs.take 15)) :
    Calls Try.prog 30 #[.int .i64 key, .int .i64 count, .slice (some ad) 17 c] w fun e w' => e = .returned (.tuple #[.slice none 0 0, .int .i64 8]) ∧ Below w.heap.size w w' := by
  have k3 : ¬ key < 0 := by omega
  have k4 : ¬ 65536 ≤ key := by omega
  have c3 : ¬ count < 0 := by omega
  have c4 : ¬ 2147483648 < count := by omega
  have l1 : bs.length = 17 := by have := R.1; simpa [Lw.intsV] using this
  have R15 : Lw.Rd w 1 (some ⟨ad.block, ad.off + 15, none⟩) 2 (Lw.intsV .u8 (bs.drop 15)) := Lw.add_succ' ad 14 ▸ (Lw.Rd.drop R (m := 15) (d := 2) rfl)
  have RH : Lw.Rd w 1 (some ad) 15 (Lw.intsV .u8 (bs.take 15)) := Lw.Rd.take R (by decide)
  have hyH : Lw.Byt (bs.take 15) := fun z hz => hy z (List.mem_of_mem_take hz)
  have S := Lib.hid (fun w R => cell_sum key count (some ad) 15 c (bs.take 15) w R hyH (by decide) k1 (by omega) c1 (by omega))
  have RH := Lib.hid RH
  have R15 := Lib.hid R15
  have b1 : (15 : Int) ≤ 17 := by decide
  have b2 : (17 : Int) ≤ (c : Int) := by omega
  have b3 : ¬ c = 15 := by omega
  have hd : decide (bs.drop 15 = Lw.sumL key count (bs.take 15)) = false := decide_eq_false h
  have hd := Lib.hid hd
  clear h l1
  go_enter Try.func30, Try.ntmps30
  go_wp2_with (go_at_call 49; go_in)
  refine wp_region_held_drew (S := Lw.Sm w) (by kernel_rfl) (Lw.sm_drew w) (fun hHeld => ?_)
  (refine Lw.take1 (i := 0) (v := ?_) rfl (by kernel_rfl) (by kernel_rfl) (by kernel_rfl) (fun _ _ _ h => h) (Or.inl ⟨by rfl, ?_⟩) (by assumption) ?_; rotate_left 1; (focus (intro wS hSw; obtain ⟨hS1, hS2, hS3, hS4⟩ := hSw; go_simp <;> with_reducible rfl)); (try simp only [Act.put, List.setIfInBounds_toArray, List.set_cons_zero, List.set_cons_succ]))
  (refine Lw.take1 (i := 1) (v := ?_) rfl (by kernel_rfl) (by kernel_rfl) (by kernel_rfl) (fun _ _ _ h => h) (Or.inl ⟨by rfl, ?_⟩) (by assumption) ?_; rotate_left 1; (focus (intro wS hSw; obtain ⟨hS1, hS2, hS3, hS4⟩ := hSw; go_simp <;> with_reducible rfl)); (try simp only [Act.put, List.setIfInBounds_toArray, List.set_cons_zero, List.set_cons_succ]))
  (refine Lw.take1 (i := 2) (v := ?_) rfl (by kernel_rfl) (by kernel_rfl) (by kernel_rfl) (fun _ _ _ h => h) (Or.inl ⟨by rfl, ?_⟩) (by assumption) ?_; rotate_left 1; (focus (intro wS hSw; obtain ⟨hS1, hS2, hS3, hS4⟩ := hSw; go_simp <;> with_reducible rfl)); (try simp only [Act.put, List.setIfInBounds_toArray, List.set_cons_zero, List.set_cons_succ]))
  (refine Lw.take1 (i := 3) (v := ?_) rfl (by kernel_rfl) (by kernel_rfl) (by kernel_rfl) (fun _ _ _ h => h) (Or.inl ⟨by rfl, ?_⟩) (by assumption) ?_; rotate_left 1; (focus (intro wS hSw; obtain ⟨hS1, hS2, hS3, hS4⟩ := hSw; go_simp <;> with_reducible rfl)); (try simp only [Act.put, List.setIfInBounds_toArray, List.set_cons_zero, List.set_cons_succ]))
  (refine Lw.take1 (i := 4) (v := ?_) rfl (by kernel_rfl) (by kernel_rfl) (by kernel_rfl) (fun _ _ _ h => h) (Or.inl ⟨by rfl, ?_⟩) (by assumption) ?_; rotate_left 1; (focus (intro wS hSw; obtain ⟨hS1, hS2, hS3, hS4⟩ := hSw; go_simp <;> with_reducible rfl)); (try simp only [Act.put, List.setIfInBounds_toArray, List.set_cons_zero, List.set_cons_succ]))
  (refine wpAnyH_ready (rs := [5]) (by kernel_rfl) (by simp) ?_; refine Lw.cons1 (i := 5) rfl (fun K hK => ?_) AllReadyH.nil; go_simp; go_at_call 50; (with_reducible refine (S.out _ (RH.out.below (Nat.le_refl _) (Lw.sm_bel (Lw.sm_drew w)))).mono ?_); rintro e w4 ⟨A4, d4, rfl, own4, hb4⟩; refine hK.out _ _ ?_ (fun hHeld => ?_); (focus exact Lw.sm_keep (Lw.sm_drew w) hb4); clear hK K; (try simp only [Act.put, List.setIfInBounds_toArray, List.set_cons_zero, List.set_cons_succ]))
  have hS4 := Lw.sm_keep (Lw.sm_drew w) hb4
  (refine wpAnyH_ready (rs := [6]) (by kernel_rfl) (by simp) ?_; refine Lw.cons1 (i := 6) rfl (fun K hK => ?_) AllReadyH.nil; go_simp; go_at_call 60; (with_reducible refine (bytes_equal _ _ 2 2 _ _ (bs.drop 15) (Lw.sumL key count (bs.take 15)) _ (R15.out.below (Nat.le_refl _) (Lw.sm_bel hS4)) (Lw.Rd.of_own own4) (by decide) (by decide)).mono ?_); rintro e w5 ⟨rfl, hb5⟩; refine hK.out _ _ ?_ (fun hHeld => ?_); (focus exact Lw.sm_keep hS4 hb5); clear hK K; (try simp only [Act.put, List.setIfInBounds_toArray, List.set_cons_zero, List.set_cons_succ]))
  have hS5 := Lw.sm_keep hS4 hb5
  (refine Lw.take1 (i := 7) (v := ?_) rfl (by kernel_rfl) (by kernel_rfl) (by kernel_rfl) (fun _ _ _ h => h) (Or.inl ⟨by rfl, ?_⟩) (by assumption) ?_; rotate_left 1; (focus (intro wS hSw; obtain ⟨hS1, hS2, hS3, hS4⟩ := hSw; go_simp <;> with_reducible rfl)); (try simp only [Act.put, List.setIfInBounds_toArray, List.set_cons_zero, List.set_cons_succ]))
  refine wpAnyH_done (by kernel_rfl) ?_ _
  have hB5 := Lw.sm_bel hS5
  clear hHeld hS4 hS5 hb4 hb5 own4
  rw [hd.out]
  go_wp2
  go_ret2
  exact ⟨rfl, hB5⟩
set_option maxHeartbeats 2000000 in
theorem cell_Read_big (key count : Int) (ad : Addr) (c : Nat) (bs : List Int) (w : World) (R : Lw.Rd w 1 (some ad) 17 (Lw.intsV .u8 bs)) (hy : Lw.Byt bs) (hc : 17 ≤ c) (k1 : 0 ≤ key) (k2 : key < 65536) (c1 : 0 ≤ count) (c2 : count ≤ 2147483648) (h : bs.drop 15 = Lw.sumL key count (bs.take 15)) (m : Nat) (hm : bs[0]? = some (m : Int)) (hm14 : 14 < m) :
    Calls Try.prog 30 #[.int .i64 key, .int .i64 count, .slice (some ad) 17 c] w fun e w' => e = .returned (.tuple #[.slice none 0 0, .int .i64 4]) ∧ Below w.heap.size w w' := by
  have k3 : ¬ key < 0 := by omega
  have k4 : ¬ 65536 ≤ key := by omega
  have c3 : ¬ count < 0 := by omega
  have c4 : ¬ 2147483648 < count := by omega
  have l1 : bs.length = 17 := by have := R.1; simpa [Lw.intsV] using this
  have R15 : Lw.Rd w 1 (some ⟨ad.block, ad.off + 15, none⟩) 2 (Lw.intsV .u8 (bs.drop 15)) := Lw.add_succ' ad 14 ▸ (Lw.Rd.drop R (m := 15) (d := 2) rfl)
  have RH : Lw.Rd w 1 (some ad) 15 (Lw.intsV .u8 (bs.take 15)) := Lw.Rd.take R (by decide)
  have hyH : Lw.Byt (bs.take 15) := fun z hz => hy z (List.mem_of_mem_take hz)
  have S := Lib.hid (fun w R => cell_sum key count (some ad) 15 c (bs.take 15) w R hyH (by decide) k1 (by omega) c1 (by omega))
  have RH := Lib.hid RH
  have R15 := Lib.hid R15
  have b1 : (15 : Int) ≤ 17 := by decide
  have b2 : (17 : Int) ≤ (c : Int) := by omega
  have b3 : ¬ c = 15 := by omega
  have hd : decide (bs.drop 15 = Lw.sumL key count (bs.take 15)) = true := decide_eq_true h
  have hd := Lib.hid hd
  have c0 := Lw.rd_first R hm
  obtain ⟨_, eb, hadb, _⟩ := R.2 (by decide)
  obtain rfl : ad = _ := by injection eb
  have mb : (0 : Int) ≤ (m : Int) ∧ (m : Int) < 256 := hy _ (List.mem_of_getElem? hm)
  have mb2 : m < 256 := by omega
  have m1 : (14 : Int) < (m : Int) := by omega
  clear h l1 eb
  go_enter Try.func30, Try.ntmps30
  go_wp2_with (go_at_call 49; go_in)
  refine wp_region_held_drew (S := Lw.Sm w) (by kernel_rfl) (Lw.sm_drew w) (fun hHeld => ?_)
  (refine Lw.take1 (i := 0) (v := ?_) rfl (by kernel_rfl) (by kernel_rfl) (by kernel_rfl) (fun _ _ _ h => h) (Or.inl ⟨by rfl, ?_⟩) (by assumption) ?_; rotate_left 1; (focus (intro wS hSw; obtain ⟨hS1, hS2, hS3, hS4⟩ := hSw; go_simp <;> with_reducible rfl)); (try simp only [Act.put, List.setIfInBounds_toArray, List.set_cons_zero, List.set_cons_succ]))
  (refine Lw.take1 (i := 1) (v := ?_) rfl (by kernel_rfl) (by kernel_rfl) (by kernel_rfl) (fun _ _ _ h => h) (Or.inl ⟨by rfl, ?_⟩) (by assumption) ?_; rotate_left 1; (focus (intro wS hSw; obtain ⟨hS1, hS2, hS3, hS4⟩ := hSw; go_simp <;> with_reducible rfl)); (try simp only [Act.put, List.setIfInBounds_toArray, List.set_cons_zero, List.set_cons_succ]))
  (refine Lw.take1 (i := 2) (v := ?_) rfl (by kernel_rfl) (by kernel_rfl) (by kernel_rfl) (fun _ _ _ h => h) (Or.inl ⟨by rfl, ?_⟩) (by assumption) ?_; rotate_left 1; (focus (intro wS hSw; obtain ⟨hS1, hS2, hS3, hS4⟩ := hSw; go_simp <;> with_reducible rfl)); (try simp only [Act.put, List.setIfInBounds_toArray, List.set_cons_zero, List.set_cons_succ]))
  (refine Lw.take1 (i := 3) (v := ?_) rfl (by kernel_rfl) (by kernel_rfl) (by kernel_rfl) (fun _ _ _ h => h) (Or.inl ⟨by rfl, ?_⟩) (by assumption) ?_; rotate_left 1; (focus (intro wS hSw; obtain ⟨hS1, hS2, hS3, hS4⟩ := hSw; go_simp <;> with_reducible rfl)); (try simp only [Act.put, List.setIfInBounds_toArray, List.set_cons_zero, List.set_cons_succ]))
  (refine Lw.take1 (i := 4) (v := ?_) rfl (by kernel_rfl) (by kernel_rfl) (by kernel_rfl) (fun _ _ _ h => h) (Or.inl ⟨by rfl, ?_⟩) (by assumption) ?_; rotate_left 1; (focus (intro wS hSw; obtain ⟨hS1, hS2, hS3, hS4⟩ := hSw; go_simp <;> with_reducible rfl)); (try simp only [Act.put, List.setIfInBounds_toArray, List.set_cons_zero, List.set_cons_succ]))
  (refine wpAnyH_ready (rs := [5]) (by kernel_rfl) (by simp) ?_; refine Lw.cons1 (i := 5) rfl (fun K hK => ?_) AllReadyH.nil; go_simp; go_at_call 50; (with_reducible refine (S.out _ (RH.out.below (Nat.le_refl _) (Lw.sm_bel (Lw.sm_drew w)))).mono ?_); rintro e w4 ⟨A4, d4, rfl, own4, hb4⟩; refine hK.out _ _ ?_ (fun hHeld => ?_); (focus exact Lw.sm_keep (Lw.sm_drew w) hb4); clear hK K; (try simp only [Act.put, List.setIfInBounds_toArray, List.set_cons_zero, List.set_cons_succ]))
  have hS4 := Lw.sm_keep (Lw.sm_drew w) hb4
  (refine wpAnyH_ready (rs := [6]) (by kernel_rfl) (by simp) ?_; refine Lw.cons1 (i := 6) rfl (fun K hK => ?_) AllReadyH.nil; go_simp; go_at_call 60; (with_reducible refine (bytes_equal _ _ 2 2 _ _ (bs.drop 15) (Lw.sumL key count (bs.take 15)) _ (R15.out.below (Nat.le_refl _) (Lw.sm_bel hS4)) (Lw.Rd.of_own own4) (by decide) (by decide)).mono ?_); rintro e w5 ⟨rfl, hb5⟩; refine hK.out _ _ ?_ (fun hHeld => ?_); (focus exact Lw.sm_keep hS4 hb5); clear hK K; (try simp only [Act.put, List.setIfInBounds_toArray, List.set_cons_zero, List.set_cons_succ]))
  have hS5 := Lw.sm_keep hS4 hb5
  (refine Lw.take1 (i := 7) (v := ?_) rfl (by kernel_rfl) (by kernel_rfl) (by kernel_rfl) (fun _ _ _ h => h) (Or.inl ⟨by rfl, ?_⟩) (by assumption) ?_; rotate_left 1; (focus (intro wS hSw; obtain ⟨hS1, hS2, hS3, hS4⟩ := hSw; go_simp <;> with_reducible rfl)); (try simp only [Act.put, List.setIfInBounds_toArray, List.set_cons_zero, List.set_cons_succ]))
  refine wpAnyH_done (by kernel_rfl) ?_ _
  have hB5 := Lw.sm_bel hS5
  clear hHeld hS4 hS5 hb4 hb5 own4
  rw [hd.out]
  have d0 : w5.cell? ad = some (.int .u8 (m : Int)) := (hB5.cell hadb).trans c0
  go_wp2
  go_ret2
  exact ⟨rfl, hB5⟩
set_option maxHeartbeats 2000000 in
theorem cell_Read_zero (key count : Int) (ad : Addr) (c : Nat) (bs : List Int) (w : World) (R : Lw.Rd w 1 (some ad) 17 (Lw.intsV .u8 bs)) (hy : Lw.Byt bs) (hc : 17 ≤ c) (k1 : 0 ≤ key) (k2 : key < 65536) (c1 : 0 ≤ count) (c2 : count ≤ 2147483648) (h : bs.drop 15 = Lw.sumL key count (bs.take 15)) (m : Nat) (hm : bs[0]? = some (m : Int)) (hm14 : m ≤ 14) (hz : ((bs.take 15).drop (1 + m)).all (· == 0) = false) :
    Calls Try.prog 30 #[.int .i64 key, .int .i64 count, .slice (some ad) 17 c] w fun e w' => e = .returned (.tuple #[.slice none 0 0, .int .i64 4]) ∧ Below w.heap.size w w' := by
  have k3 : ¬ key < 0 := by omega
  have k4 : ¬ 65536 ≤ key := by omega
  have c3 : ¬ count < 0 := by omega
  have c4 : ¬ 2147483648 < count := by omega
  have l1 : bs.length = 17 := by have := R.1; simpa [Lw.intsV] using this
  have R15 : Lw.Rd w 1 (some ⟨ad.block, ad.off + 15, none⟩) 2 (Lw.intsV .u8 (bs.drop 15)) := Lw.add_succ' ad 14 ▸ (Lw.Rd.drop R (m := 15) (d := 2) rfl)
  have RH : Lw.Rd w 1 (some ad) 15 (Lw.intsV .u8 (bs.take 15)) := Lw.Rd.take R (by decide)
  have hyH : Lw.Byt (bs.take 15) := fun z hz => hy z (List.mem_of_mem_take hz)
  have S := Lib.hid (fun w R => cell_sum key count (some ad) 15 c (bs.take 15) w R hyH (by decide) k1 (by omega) c1 (by omega))
  have RH := Lib.hid RH
  have R15 := Lib.hid R15
  have b1 : (15 : Int) ≤ 17 := by decide
  have b2 : (17 : Int) ≤ (c : Int) := by omega
  have b3 : ¬ c = 15 := by omega
  have hd : decide (bs.drop 15 = Lw.sumL key count (bs.take 15)) = true := decide_eq_true h
  have hd := Lib.hid hd
  have c0 := Lw.rd_first R hm
  obtain ⟨_, eb, hadb, _⟩ := R.2 (by decide)
  obtain rfl : ad = _ := by injection eb
  have mb : (0 : Int) ≤ (m : Int) ∧ (m : Int) < 256 := hy _ (List.mem_of_getElem? hm)
  have mb2 : m < 256 := by omega
  have m1 : ¬ (14 : Int) < (m : Int) := by omega
  have q1 : (0 : Int) ≤ 1 + (m : Int) := by omega
  have q2 : 1 + (m : Int) ≤ 15 := by omega
  have q3 : (1 + (m : Int)).toNat = 1 + m := by omega
  have q4 : ¬ c = 1 + m := by omega
  have q5 : 1 + (m : Int) ≤ (c : Int) := by omega
  have RZ : Lw.Rd w 1 (some (ad.add (1 + m))) (15 - (1 + m)) (Lw.intsV .u8 ((bs.take 15).drop (1 + m))) := Lw.Rd.drop RH.out (by omega)
  have RZ := Lib.hid RZ
  have AL := Lib.hid (fun A c w R => cell_all A (15 - (1 + m)) c ((bs.take 15).drop (1 + m)) w R (by omega))
  rw [hz] at AL
  clear h l1 eb
  go_enter Try.func30, Try.ntmps30
  go_wp2_with (go_at_call 49; go_in)
  refine wp_region_held_drew (S := Lw.Sm w) (by kernel_rfl) (Lw.sm_drew w) (fun hHeld => ?_)
  (refine Lw.take1 (i := 0) (v := ?_) rfl (by kernel_rfl) (by kernel_rfl) (by kernel_rfl) (fun _ _ _ h => h) (Or.inl ⟨by rfl, ?_⟩) (by assumption) ?_; rotate_left 1; (focus (intro wS hSw; obtain ⟨hS1, hS2, hS3, hS4⟩ := hSw; go_simp <;> with_reducible rfl)); (try simp only [Act.put, List.setIfInBounds_toArray, List.set_cons_zero, List.set_cons_succ]))
  (refine Lw.take1 (i := 1) (v := ?_) rfl (by kernel_rfl) (by kernel_rfl) (by kernel_rfl) (fun _ _ _ h => h) (Or.inl ⟨by rfl, ?_⟩) (by assumption) ?_; rotate_left 1; (focus (intro wS hSw; obtain ⟨hS1, hS2, hS3, hS4⟩ := hSw; go_simp <;> with_reducible rfl)); (try simp only [Act.put, List.setIfInBounds_toArray, List.set_cons_zero, List.set_cons_succ]))
  (refine Lw.take1 (i := 2) (v := ?_) rfl (by kernel_rfl) (by kernel_rfl) (by kernel_rfl) (fun _ _ _ h => h) (Or.inl ⟨by rfl, ?_⟩) (by assumption) ?_; rotate_left 1; (focus (intro wS hSw; obtain ⟨hS1, hS2, hS3, hS4⟩ := hSw; go_simp <;> with_reducible rfl)); (try simp only [Act.put, List.setIfInBounds_toArray, List.set_cons_zero, List.set_cons_succ]))
  (refine Lw.take1 (i := 3) (v := ?_) rfl (by kernel_rfl) (by kernel_rfl) (by kernel_rfl) (fun _ _ _ h => h) (Or.inl ⟨by rfl, ?_⟩) (by assumption) ?_; rotate_left 1; (focus (intro wS hSw; obtain ⟨hS1, hS2, hS3, hS4⟩ := hSw; go_simp <;> with_reducible rfl)); (try simp only [Act.put, List.setIfInBounds_toArray, List.set_cons_zero, List.set_cons_succ]))
  (refine Lw.take1 (i := 4) (v := ?_) rfl (by kernel_rfl) (by kernel_rfl) (by kernel_rfl) (fun _ _ _ h => h) (Or.inl ⟨by rfl, ?_⟩) (by assumption) ?_; rotate_left 1; (focus (intro wS hSw; obtain ⟨hS1, hS2, hS3, hS4⟩ := hSw; go_simp <;> with_reducible rfl)); (try simp only [Act.put, List.setIfInBounds_toArray, List.set_cons_zero, List.set_cons_succ]))
  (refine wpAnyH_ready (rs := [5]) (by kernel_rfl) (by simp) ?_; refine Lw.cons1 (i := 5) rfl (fun K hK => ?_) AllReadyH.nil; go_simp; go_at_call 50; (with_reducible refine (S.out _ (RH.out.below (Nat.le_refl _) (Lw.sm_bel (Lw.sm_drew w)))).mono ?_); rintro e w4 ⟨A4, d4, rfl, own4, hb4⟩; refine hK.out _ _ ?_ (fun hHeld => ?_); (focus exact Lw.sm_keep (Lw.sm_drew w) hb4); clear hK K; (try simp only [Act.put, List.setIfInBounds_toArray, List.set_cons_zero, List.set_cons_succ]))
  have hS4 := Lw.sm_keep (Lw.sm_drew w) hb4
  (refine wpAnyH_ready (rs := [6]) (by kernel_rfl) (by simp) ?_; refine Lw.cons1 (i := 6) rfl (fun K hK => ?_) AllReadyH.nil; go_simp; go_at_call 60; (with_reducible refine (bytes_equal _ _ 2 2 _ _ (bs.drop 15) (Lw.sumL key count (bs.take 15)) _ (R15.out.below (Nat.le_refl _) (Lw.sm_bel hS4)) (Lw.Rd.of_own own4) (by decide) (by decide)).mono ?_); rintro e w5 ⟨rfl, hb5⟩; refine hK.out _ _ ?_ (fun hHeld => ?_); (focus exact Lw.sm_keep hS4 hb5); clear hK K; (try simp only [Act.put, List.setIfInBounds_toArray, List.set_cons_zero, List.set_cons_succ]))
  have hS5 := Lw.sm_keep hS4 hb5
  (refine Lw.take1 (i := 7) (v := ?_) rfl (by kernel_rfl) (by kernel_rfl) (by kernel_rfl) (fun _ _ _ h => h) (Or.inl ⟨by rfl, ?_⟩) (by assumption) ?_; rotate_left 1; (focus (intro wS hSw; obtain ⟨hS1, hS2, hS3, hS4⟩ := hSw; go_simp <;> with_reducible rfl)); (try simp only [Act.put, List.setIfInBounds_toArray, List.set_cons_zero, List.set_cons_succ]))
  refine wpAnyH_done (by kernel_rfl) ?_ _
  have hB5 := Lw.sm_bel hS5
  clear hHeld hS4 hS5 hb4 hb5 own4
  rw [hd.out]
  have d0 : w5.cell? ad = some (.int .u8 (m : Int)) := (hB5.cell hadb).trans c0
  go_wp2_with fail
  refine (AL.out _ _ _ (RZ.out.below (Nat.le_refl _) hB5)).mono ?_
  rintro e w6 ⟨rfl, hb6⟩
  go_wp2_with fail
  go_ret2
  exact ⟨rfl, Lw.bt hB5 hb6⟩
set_option maxHeartbeats 2000000 in
theorem cell_Read_ok (key count : Int) (ad : Addr) (c : Nat) (bs : List Int) (w : World) (R : Lw.Rd w 1 (some ad) 17 (Lw.intsV .u8 bs)) (hy : Lw.Byt bs) (hc : 17 ≤ c) (k1 : 0 ≤ key) (k2 : key < 65536) (c1 : 0 ≤ count) (c2 : count ≤ 2147483648) (h : bs.drop 15 = Lw.sumL key count (bs.take 15)) (m : Nat) (hm : bs[0]? = some (m : Int)) (hm14 : m ≤ 14) (hz : ((bs.take 15).drop (1 + m)).all (· == 0) = true) :
    Calls Try.prog 30 #[.int .i64 key, .int .i64 count, .slice (some ad) 17 c] w fun e w' => ∃ A' c', e = .returned (.tuple #[.slice A' m c', .int .i64 0]) ∧ w'.ownsRow w.heap.size 5 1 (.slice A' m c') m (Lw.intsV .u8 ((bs.drop 1).take m)) ∧ Below w.heap.size w w' := by
  have k3 : ¬ key < 0 := by omega
  have k4 : ¬ 65536 ≤ key := by omega
  have c3 : ¬ count < 0 := by omega
  have c4 : ¬ 2147483648 < count := by omega
  have l1 : bs.length = 17 := by have := R.1; simpa [Lw.intsV] using this
  have R15 : Lw.Rd w 1 (some ⟨ad.block, ad.off + 15, none⟩) 2 (Lw.intsV .u8 (bs.drop 15)) := Lw.add_succ' ad 14 ▸ (Lw.Rd.drop R (m := 15) (d := 2) rfl)
  have RH : Lw.Rd w 1 (some ad) 15 (Lw.intsV .u8 (bs.take 15)) := Lw.Rd.take R (by decide)
  have hyH : Lw.Byt (bs.take 15) := fun z hz => hy z (List.mem_of_mem_take hz)
  have S := Lib.hid (fun w R => cell_sum key count (some ad) 15 c (bs.take 15) w R hyH (by decide) k1 (by omega) c1 (by omega))
  have RH := Lib.hid RH
  have R15 := Lib.hid R15
  have b1 : (15 : Int) ≤ 17 := by decide
  have b2 : (17 : Int) ≤ (c : Int) := by omega
  have b3 : ¬ c = 15 := by omega
  have hd : decide (bs.drop 15 = Lw.sumL key count (bs.take 15)) = true := decide_eq_true h
  have hd := Lib.hid hd
  have c0 := Lw.rd_first R hm
  obtain ⟨_, eb, hadb, _⟩ := R.2 (by decide)
  obtain rfl : ad = _ := by injection eb
  have mb : (0 : Int) ≤ (m : Int) ∧ (m : Int) < 256 := hy _ (List.mem_of_getElem? hm)
  have mb2 : m < 256 := by omega
  have m1 : ¬ (14 : Int) < (m : Int) := by omega
  have q1 : (0 : Int) ≤ 1 + (m : Int) := by omega
  have q2 : 1 + (m : Int) ≤ 15 := by omega
  have q3 : (1 + (m : Int)).toNat = 1 + m := by omega
  have q4 : ¬ c = 1 + m := by omega
  have q5 : 1 + (m : Int) ≤ (c : Int) := by omega
  have RZ : Lw.Rd w 1 (some (ad.add (1 + m))) (15 - (1 + m)) (Lw.intsV .u8 ((bs.take 15).drop (1 + m))) := Lw.Rd.drop RH.out (by omega)
  have RZ := Lib.hid RZ
  have AL := Lib.hid (fun A c w R => cell_all A (15 - (1 + m)) c ((bs.take 15).drop (1 + m)) w R (by omega))
  rw [hz] at AL
  have RB : Lw.Rd w 1 (some ⟨ad.block, ad.off + 1, none⟩) m (Lw.intsV .u8 ((bs.drop 1).take m)) := Lw.Rd.take (Lw.add_succ' ad 0 ▸ (Lw.Rd.drop R (m := 1) (d := 16) rfl)) (by omega)
  have RB := Lib.hid RB
  have q6 : (1 : Int) ≤ 1 + (m : Int) := by omega
  clear h l1 eb
  go_enter Try.func30, Try.ntmps30
  go_wp2_with (go_at_call 49; go_in)
  refine wp_region_held_drew (S := Lw.Sm w) (by kernel_rfl) (Lw.sm_drew w) (fun hHeld => ?_)
  (refine Lw.take1 (i := 0) (v := ?_) rfl (by kernel_rfl) (by kernel_rfl) (by kernel_rfl) (fun _ _ _ h => h) (Or.inl ⟨by rfl, ?_⟩) (by assumption) ?_; rotate_left 1; (focus (intro wS hSw; obtain ⟨hS1, hS2, hS3, hS4⟩ := hSw; go_simp <;> with_reducible rfl)); (try simp only [Act.put, List.setIfInBounds_toArray, List.set_cons_zero, List.set_cons_succ]))
  (refine Lw.take1 (i := 1) (v := ?_) rfl (by kernel_rfl) (by kernel_rfl) (by kernel_rfl) (fun _ _ _ h => h) (Or.inl ⟨by rfl, ?_⟩) (by assumption) ?_; rotate_left 1; (focus (intro wS hSw; obtain ⟨hS1, hS2, hS3, hS4⟩ := hSw; go_simp <;> with_reducible rfl)); (try simp only [Act.put, List.setIfInBounds_toArray, List.set_cons_zero, List.set_cons_succ]))
  (refine Lw.take1 (i := 2) (v := ?_) rfl (by kernel_rfl) (by kernel_rfl) (by kernel_rfl) (fun _ _ _ h => h) (Or.inl ⟨by rfl, ?_⟩) (by assumption) ?_; rotate_left 1; (focus (intro wS hSw; obtain ⟨hS1, hS2, hS3, hS4⟩ := hSw; go_simp <;> with_reducible rfl)); (try simp only [Act.put, List.setIfInBounds_toArray, List.set_cons_zero, List.set_cons_succ]))
  (refine Lw.take1 (i := 3) (v := ?_) rfl (by kernel_rfl) (by kernel_rfl) (by kernel_rfl) (fun _ _ _ h => h) (Or.inl ⟨by rfl, ?_⟩) (by assumption) ?_; rotate_left 1; (focus (intro wS hSw; obtain ⟨hS1, hS2, hS3, hS4⟩ := hSw; go_simp <;> with_reducible rfl)); (try simp only [Act.put, List.setIfInBounds_toArray, List.set_cons_zero, List.set_cons_succ]))
  (refine Lw.take1 (i := 4) (v := ?_) rfl (by kernel_rfl) (by kernel_rfl) (by kernel_rfl) (fun _ _ _ h => h) (Or.inl ⟨by rfl, ?_⟩) (by assumption) ?_; rotate_left 1; (focus (intro wS hSw; obtain ⟨hS1, hS2, hS3, hS4⟩ := hSw; go_simp <;> with_reducible rfl)); (try simp only [Act.put, List.setIfInBounds_toArray, List.set_cons_zero, List.set_cons_succ]))
  (refine wpAnyH_ready (rs := [5]) (by kernel_rfl) (by simp) ?_; refine Lw.cons1 (i := 5) rfl (fun K hK => ?_) AllReadyH.nil; go_simp; go_at_call 50; (with_reducible refine (S.out _ (RH.out.below (Nat.le_refl _) (Lw.sm_bel (Lw.sm_drew w)))).mono ?_); rintro e w4 ⟨A4, d4, rfl, own4, hb4⟩; refine hK.out _ _ ?_ (fun hHeld => ?_); (focus exact Lw.sm_keep (Lw.sm_drew w) hb4); clear hK K; (try simp only [Act.put, List.setIfInBounds_toArray, List.set_cons_zero, List.set_cons_succ]))
  have hS4 := Lw.sm_keep (Lw.sm_drew w) hb4
  (refine wpAnyH_ready (rs := [6]) (by kernel_rfl) (by simp) ?_; refine Lw.cons1 (i := 6) rfl (fun K hK => ?_) AllReadyH.nil; go_simp; go_at_call 60; (with_reducible refine (bytes_equal _ _ 2 2 _ _ (bs.drop 15) (Lw.sumL key count (bs.take 15)) _ (R15.out.below (Nat.le_refl _) (Lw.sm_bel hS4)) (Lw.Rd.of_own own4) (by decide) (by decide)).mono ?_); rintro e w5 ⟨rfl, hb5⟩; refine hK.out _ _ ?_ (fun hHeld => ?_); (focus exact Lw.sm_keep hS4 hb5); clear hK K; (try simp only [Act.put, List.setIfInBounds_toArray, List.set_cons_zero, List.set_cons_succ]))
  have hS5 := Lw.sm_keep hS4 hb5
  (refine Lw.take1 (i := 7) (v := ?_) rfl (by kernel_rfl) (by kernel_rfl) (by kernel_rfl) (fun _ _ _ h => h) (Or.inl ⟨by rfl, ?_⟩) (by assumption) ?_; rotate_left 1; (focus (intro wS hSw; obtain ⟨hS1, hS2, hS3, hS4⟩ := hSw; go_simp <;> with_reducible rfl)); (try simp only [Act.put, List.setIfInBounds_toArray, List.set_cons_zero, List.set_cons_succ]))
  refine wpAnyH_done (by kernel_rfl) ?_ _
  have hB5 := Lw.sm_bel hS5
  clear hHeld hS4 hS5 hb4 hb5 own4
  rw [hd.out]
  have d0 : w5.cell? ad = some (.int .u8 (m : Int)) := (hB5.cell hadb).trans c0
  go_wp2_with fail
  refine (AL.out _ _ _ (RZ.out.below (Nat.le_refl _) hB5)).mono ?_
  rintro e w6 ⟨rfl, hb6⟩
  go_wp2_with fail
  refine (bytes_clone _ m _ _ _ (RB.out.below (Nat.le_refl _) (Lw.bt hB5 hb6)) (Lw.intsV_one _ _) (by omega)).mono ?_
  rintro e w7 ⟨A7, d7, rfl, own7, hb7⟩
  go_wp2_with fail
  go_ret2
  exact ⟨A7, d7, rfl, Lw.ownsBase own7 (Lw.bt hB5 hb6).size, Lw.bt (Lw.bt hB5 hb6) hb7⟩
end Go.Proofs.Ytdibbdlpnfcmiaa

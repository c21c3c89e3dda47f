/- What a text asks: talk.asks and the reference's TextAsks. -/
import Derived.Test.YtfidmmgcmfnleaaBytes2
import Derived.Test.YtfidmmgcmfnleaaRegS
import Derived.Test.YtfidmmgcmfnleaaAsk
namespace Lw
/-- the bytes that are summed: first, public, the text -/
def askT (y F : Int) (bs : List Int) : List Int := littleL F 4 ++ littleL y 4 ++ bs
theorem askT_byt {y F : Int} {bs : List Int} (h : Byt bs) : Byt (askT y F bs) := ((littleL_byt _ _).app (littleL_byt _ _)).app h
def asksI (Q y F : Int) (bs : List Int) : Int := hsum (askT y F bs) % Q
end Lw
set_option linter.unusedVariables false
set_option linter.unusedSimpArgs false
namespace Go.Proofs.Ytfidmmgcmfnleaa
open Go.RowKit
set_option maxHeartbeats 2000000 in
theorem talk_asks (P Q G H y F : Int) (A : Option Addr) (n c : Nat) (bs : List Int) (w : World) (R : Lw.Rd w 1 A n (Lw.intsV .u8 bs)) (hy : Lw.Byt bs) (hm : n ≤ 4096) (q1 : 1 ≤ Q) (y1 : 0 ≤ y) (y2 : y ≤ 1048576) (f1 : 0 ≤ F) (f2 : F ≤ 1048576) :
    Calls Try.prog 33 #[.agg #[.int .i64 P, .int .i64 Q, .int .i64 G, .int .i64 H], .int .i64 y, .int .i64 F, .slice A n c] w fun e w' => e = .returned (.int .i64 (Lw.asksI Q y F bs)) ∧ Below w.heap.size w w' := by
  obtain ⟨W, hW⟩ : ∃ W, w.alloc (.cells #[.int .i64 P, .int .i64 Q, .int .i64 G, .int .i64 H] 23) = W := ⟨_, rfl⟩
  have B0 : W.heap[w.heap.size]? = some (.cells #[.int .i64 P, .int .i64 Q, .int .i64 G, .int .i64 H] 23 (0, 0)) := by rw [← hW]; exact Lw.blk_new _ _ _
  have hB0 : Below w.heap.size w W := by rw [← hW]; (repeat (first | exact Below.refl _ _ | refine Lw.bt ?_ (by assumption) | refine Lw.balloc ?_ _ | refine Lw.bdrewN ?_ _ | refine Below.drew ?_ | refine Lw.bset ?_ (by first | (simp; done) | (simp; omega) | omega) _))
  have hsz : w.heap.size < W.heap.size := by rw [← hW]; simp
  have R := Lib.hid (R.below (Nat.le_refl _) hB0)
  have k1 := Lw.blk_cell B0 1
  simp at k1
  have Y := Lw.askT_byt (y := y) (F := F) hy
  have E : Hid (Lw.asksI Q y F bs = Lw.hsum (Lw.askT y F bs) % Q) := rfl
  have T : Hid (Lw.intsV .u8 (Lw.askT y F bs) = Lw.intsV .u8 (Lw.littleL F 4 ++ Lw.littleL y 4) ++ Lw.intsV .u8 bs) := Lw.intsV_app _ _ _
  have I0 := fun W => Lw.run_index_arr (P := Try.prog) (k := .i64) (cs := #[.int .i64 F, .int .i64 y]) Try.underlying78 Try.underlying2 (by kernel_rfl) 0 (by decide) rfl W
  have I1 := fun W => Lw.run_index_arr (P := Try.prog) (k := .i64) (cs := #[.int .i64 F, .int .i64 y]) Try.underlying78 Try.underlying2 (by kernel_rfl) 1 (by decide) rfl W
  simp only [Int.natCast_zero, Int.natCast_one] at I0 I1
  have HW := Lib.hid hW
  clear hW
  go_enter Try.func33, Try.ntmps33
  go_wp2
  rw [HW.out]
  go_loopw [9, 11, 15] (fun b x i wr => ∃ m zs, ((i = .int .i64 0 ∧ 0 = m ∧ [] = zs) ∨ (i = .int .i64 1 ∧ 4 = m ∧ Lw.littleL F 4 = zs) ∨ (i = .int .i64 2 ∧ 8 = m ∧ Lw.littleL F 4 ++ Lw.littleL y 4 = zs)) ∧ wr.ownsRow W.heap.size 5 1 b m (Lw.intsV .u8 zs) ∧ Below W.heap.size W wr) (fun _ _ i _ => 2 - (intOf i).toNat)
  case atStart => exact ⟨0, [], .inl ⟨rfl, rfl, rfl⟩, World.ownsRow_nil _ _ _ _, Below.refl _ _⟩
  case round =>
    obtain ⟨m, zs, h, own, hB⟩ := hrel
    have hszr := hB.size
    have OWN := Lib.hid own
    clear own
    rcases h with ⟨rfl, rfl, rfl⟩ | ⟨rfl, rfl, rfl⟩ | ⟨rfl, rfl, rfl⟩
    · go_wp2_with (first | (go_at_call 46; refine (hash_Little F 4 _ f1 (by omega) (by omega)).mono ?_; rintro e w1 ⟨A1, c1, rfl, own1, hb1⟩) | (at_builtin; refine Lw.wpList_app elByte rfl _ _ rfl rfl (Lw.ownsBelow OWN.out (Nat.le_refl _) hb1) rfl (Lw.Rd.of_own own1) (Lw.intsV_one _ _) (by omega) (Lw.bt hB hb1) (Nat.le_refl _) (by have := hb1.size; omega) ?_; intro v2 w2 own2 hb2 _ _))
      have O2 := Lib.hid own2
      clear own1 own2
      go_wp2
      go_roundw
      case rel => exact ⟨4, _, .inr (.inl ⟨rfl, rfl, rfl⟩), by simpa [Lw.intsV] using O2.out, hb2⟩
      case measure => simp [intOf]
    · go_wp2_with (first | (go_at_call 46; refine (hash_Little y 4 _ y1 (by omega) (by omega)).mono ?_; rintro e w1 ⟨A1, c1, rfl, own1, hb1⟩) | (at_builtin; refine Lw.wpList_app elByte rfl _ _ rfl rfl (Lw.ownsBelow OWN.out (Nat.le_refl _) hb1) rfl (Lw.Rd.of_own own1) (Lw.intsV_one _ _) (by omega) (Lw.bt hB hb1) (Nat.le_refl _) (by have := hb1.size; omega) ?_; intro v2 w2 own2 hb2 _ _))
      have O2 := Lib.hid own2
      clear own1 own2
      go_wp2
      go_roundw
      case rel => exact ⟨8, _, .inr (.inr ⟨rfl, rfl, rfl⟩), by rw [Lw.intsV_app]; exact O2.out, hb2⟩
      case measure => simp [intOf]
    · have hQ0 : ¬ Q = 0 := by omega
      obtain ⟨s1, s2⟩ := Lw.hsum_bd (Lw.askT y F bs)
      have C := Lib.hid (fun A c w R => hash_Of A (8 + n) c (Lw.askT y F bs) w R Y (by omega))
      obtain ⟨s, hs⟩ : ∃ s, Lw.hsum (Lw.askT y F bs) = s := ⟨_, rfl⟩
      rw [hs] at C E s1 s2
      clear hs
      go_wp2
      refine wp_region_held_drew (S := Lw.Sm W) (by kernel_rfl) (Lw.sm_of (Below.drew hB)) (fun hHeld => ?_)
      (refine Lw.take1 (i := 0) (v := ?_) rfl (by kernel_rfl) (by kernel_rfl) (by kernel_rfl) (fun _ _ _ h => h) (Or.inl ⟨by rfl, ?_⟩) (by assumption) ?_; rotate_left 1; (focus (intro wS hSw; obtain ⟨hS1, hS2, hS3, hS4⟩ := hSw; go_simp <;> with_reducible rfl)); (try simp only [Act.put, List.setIfInBounds_toArray, List.set_cons_zero, List.set_cons_succ]))
      (refine Lw.take1 (i := 1) (v := ?_) rfl (by kernel_rfl) (by kernel_rfl) (by kernel_rfl) (fun _ _ _ h => h) (Or.inl ⟨by rfl, ?_⟩) (by assumption) ?_; rotate_left 1; (focus (intro wS hSw; obtain ⟨hS1, hS2, hS3, hS4⟩ := hSw; go_simp <;> with_reducible rfl)); (try simp only [Act.put, List.setIfInBounds_toArray, List.set_cons_zero, List.set_cons_succ]))
      (refine Lw.take1 (i := 5) (v := ?_) rfl (by kernel_rfl) (by kernel_rfl) (by kernel_rfl) (fun _ _ _ h => h) (Or.inl ⟨by rfl, ?_⟩) (by assumption) ?_; rotate_left 1; (focus (intro wS hSw; obtain ⟨hS1, hS2, hS3, hS4⟩ := hSw; go_simp <;> with_reducible rfl)); (try simp only [Act.put, List.setIfInBounds_toArray, List.set_cons_zero, List.set_cons_succ]))
      (refine Lw.take1 (i := 6) (v := ?_) rfl (by kernel_rfl) (by kernel_rfl) (by kernel_rfl) (fun _ _ _ h => h) (Or.inl ⟨by rfl, ?_⟩) (by assumption) ?_; rotate_left 1; (focus (intro wS hSw; obtain ⟨hS1, hS2, hS3, hS4⟩ := hSw; go_simp <;> with_reducible rfl)); (try simp only [Act.put, List.setIfInBounds_toArray, List.set_cons_zero, List.set_cons_succ]))
      (refine wpAnyH_ready (rs := [2]) (by kernel_rfl) (by simp) ?_; refine Lw.cons1 (i := 2) rfl (fun K hK => ?_) AllReadyH.nil; refine Lw.step_app elByte rfl _ _ rfl rfl OWN.out rfl (R.out.below (Nat.le_refl _) (Below.drew hB)) (Lw.intsV_one _ _) (by omega) (Below.drew hB) (Nat.le_refl _) hszr ?_; intro v2 w2 own2 hb2 _ _; refine hK.out _ _ ?_ (fun hHeld => ?_); (focus exact Lw.sm_of hb2); clear hK K; (try simp only [Act.put, List.setIfInBounds_toArray, List.set_cons_zero, List.set_cons_succ]))
      obtain ⟨A2, c2, rfl, _⟩ := Lw.ownsForm own2
      rw [← T.out] at own2
      (refine wpAnyH_ready (rs := [3]) (by kernel_rfl) (by simp) ?_; refine Lw.cons1 (i := 3) rfl (fun K hK => ?_) AllReadyH.nil; go_simp; go_at_call 47; (with_reducible refine (C.out _ _ _ (Lw.Rd.of_own own2)).mono ?_); rintro e w3 ⟨rfl, hb3⟩; refine hK.out _ _ ?_ (fun hHeld => ?_); (focus exact Lw.sm_of (Lw.bt hb2 hb3)); clear hK K; (try simp only [Act.put, List.setIfInBounds_toArray, List.set_cons_zero, List.set_cons_succ]))
      (refine Lw.take1 (i := 4) (v := ?_) rfl (by kernel_rfl) (by kernel_rfl) (by kernel_rfl) (fun _ _ _ h => h) (Or.inl ⟨by rfl, ?_⟩) (by assumption) ?_; rotate_left 1; (focus (intro wS hSw; obtain ⟨hS1, hS2, hS3, hS4⟩ := hSw; go_simp <;> with_reducible rfl)); (try simp only [Act.put, List.setIfInBounds_toArray, List.set_cons_zero, List.set_cons_succ]))
      (refine Lw.take1 (i := 7) (v := ?_) rfl (by kernel_rfl) (by kernel_rfl) (by kernel_rfl) (fun _ _ _ h => h) (Or.inl ⟨by rfl, ?_⟩) (by assumption) ?_; rotate_left 1; (focus (intro wS hSw; obtain ⟨hS1, hS2, hS3, hS4⟩ := hSw; go_simp <;> with_reducible rfl)); (try simp only [Act.put, List.setIfInBounds_toArray, List.set_cons_zero, List.set_cons_succ]))
      (refine Lw.take1 (i := 8) (v := ?_) rfl (by kernel_rfl) (by kernel_rfl) (by kernel_rfl) (fun _ _ _ h => h) (Or.inl ⟨by rfl, ?_⟩) (by assumption) ?_; rotate_left 1; (focus (intro wS hSw; obtain ⟨hS1, hS2, hS3, hS4⟩ := hSw; go_simp <;> with_reducible rfl)); (try simp only [Act.put, List.setIfInBounds_toArray, List.set_cons_zero, List.set_cons_succ]))
      refine wpAnyH_done (by kernel_rfl) ?_ _
      go_wp2
      go_ret
      rw [E.out]
      have V : (IntKind.i64.wrap s).tmod Q = s % Q := by rw [IntWalk.i64_in _ (by omega)]; exact Int.tmod_eq_emod_of_nonneg s1
      exact ⟨Lw.ret_int V, Lw.bt hB0 (Lw.bt hb2 hb3)⟩
set_option maxHeartbeats 2000000 in
theorem ref_TextAsks (P Q G H y F : Int) (A : Option Addr) (n c : Nat) (bs : List Int) (w : World) (R : Lw.Rd w 1 A n (Lw.intsV .u8 bs)) (hy : Lw.Byt bs) (hm : n ≤ 4096) (q1 : 1 ≤ Q) (y1 : 0 ≤ y) (y2 : y ≤ 1048576) (f1 : 0 ≤ F) (f2 : F ≤ 1048576) :
    Calls Try.prog 17 #[.agg #[.int .i64 P, .int .i64 Q, .int .i64 G, .int .i64 H], .int .i64 y, .int .i64 F, .slice A n c] w fun e w' => e = .returned (.int .i64 (Lw.asksI Q y F bs)) ∧ Below w.heap.size w w' := by
  obtain ⟨W, hW⟩ : ∃ W, w.alloc (.cells #[.int .i64 P, .int .i64 Q, .int .i64 G, .int .i64 H] 23) = W := ⟨_, rfl⟩
  have B0 : W.heap[w.heap.size]? = some (.cells #[.int .i64 P, .int .i64 Q, .int .i64 G, .int .i64 H] 23 (0, 0)) := by rw [← hW]; exact Lw.blk_new _ _ _
  have hB0 : Below w.heap.size w W := by rw [← hW]; (repeat (first | exact Below.refl _ _ | refine Lw.bt ?_ (by assumption) | refine Lw.balloc ?_ _ | refine Lw.bdrewN ?_ _ | refine Below.drew ?_ | refine Lw.bset ?_ (by first | (simp; done) | (simp; omega) | omega) _))
  have hsz : w.heap.size < W.heap.size := by rw [← hW]; simp
  have R := Lib.hid (R.below (Nat.le_refl _) hB0)
  have k1 := Lw.blk_cell B0 1
  simp at k1
  have Y := Lw.askT_byt (y := y) (F := F) hy
  have E : Hid (Lw.asksI Q y F bs = Lw.hsum (Lw.askT y F bs) % Q) := rfl
  have T : Hid (Lw.intsV .u8 (Lw.askT y F bs) = Lw.intsV .u8 (Lw.littleL F 4) ++ Lw.intsV .u8 (Lw.littleL y 4) ++ Lw.intsV .u8 bs) := by unfold Lw.askT; rw [Lw.intsV_app, Lw.intsV_app]; rfl
  have HW := Lib.hid hW
  clear hW
  have hQ0 : ¬ Q = 0 := by omega
  obtain ⟨s1, s2⟩ := Lw.hsum_bd (Lw.askT y F bs)
  have C := Lib.hid (fun A c w R => ref_Sum A (4 + 4 + n) c (Lw.askT y F bs) w R Y (by omega))
  obtain ⟨s, hs⟩ : ∃ s, Lw.hsum (Lw.askT y F bs) = s := ⟨_, rfl⟩
  rw [hs] at C E s1 s2
  clear hs
  go_enter Try.func17, Try.ntmps17
  go_wp2_with fail
  rw [HW.out]
  refine (ref_little F 4 _ f1 (by omega) (by omega)).mono ?_
  rintro e w1 ⟨A1, c1, rfl, own1, hb1⟩
  go_wp2_with fail
  refine (ref_little y 4 _ y1 (by omega) (by omega)).mono ?_
  rintro e w2 ⟨A2, c2, rfl, own2, hb2⟩
  go_wp2_with (at_builtin; refine Lw.wpList_app elByte rfl _ _ rfl rfl (Lw.ownsBelow own1 (Nat.le_refl _) hb2) rfl (Lw.Rd.of_own own2) (Lw.intsV_one _ _) (by omega) (Lw.bt hb1 hb2) (Nat.le_refl _) (by have := hb1.size; have := hb2.size; omega) ?_; intro v3 w3 own3 hb3 _ _)
  have hszr := hb3.size
  refine wp_region_held_drew (S := Lw.Sm W) (by kernel_rfl) (Lw.sm_of (Below.drew hb3)) (fun hHeld => ?_)
  (refine Lw.take1 (i := 0) (v := ?_) rfl (by kernel_rfl) (by kernel_rfl) (by kernel_rfl) (fun _ _ _ h => h) (Or.inl ⟨by rfl, ?_⟩) (by assumption) ?_; rotate_left 1; (focus (intro wS hSw; obtain ⟨hS1, hS2, hS3, hS4⟩ := hSw; go_simp <;> with_reducible rfl)); (try simp only [Act.put, List.setIfInBounds_toArray, List.set_cons_zero, List.set_cons_succ]))
  (refine Lw.take1 (i := 1) (v := ?_) rfl (by kernel_rfl) (by kernel_rfl) (by kernel_rfl) (fun _ _ _ h => h) (Or.inl ⟨by rfl, ?_⟩) (by assumption) ?_; rotate_left 1; (focus (intro wS hSw; obtain ⟨hS1, hS2, hS3, hS4⟩ := hSw; go_simp <;> with_reducible rfl)); (try simp only [Act.put, List.setIfInBounds_toArray, List.set_cons_zero, List.set_cons_succ]))
  (refine Lw.take1 (i := 4) (v := ?_) rfl (by kernel_rfl) (by kernel_rfl) (by kernel_rfl) (fun _ _ _ h => h) (Or.inl ⟨by rfl, ?_⟩) (by assumption) ?_; rotate_left 1; (focus (intro wS hSw; obtain ⟨hS1, hS2, hS3, hS4⟩ := hSw; go_simp <;> with_reducible rfl)); (try simp only [Act.put, List.setIfInBounds_toArray, List.set_cons_zero, List.set_cons_succ]))
  (refine Lw.take1 (i := 5) (v := ?_) rfl (by kernel_rfl) (by kernel_rfl) (by kernel_rfl) (fun _ _ _ h => h) (Or.inl ⟨by rfl, ?_⟩) (by assumption) ?_; rotate_left 1; (focus (intro wS hSw; obtain ⟨hS1, hS2, hS3, hS4⟩ := hSw; go_simp <;> with_reducible rfl)); (try simp only [Act.put, List.setIfInBounds_toArray, List.set_cons_zero, List.set_cons_succ]))
  (refine wpAnyH_ready (rs := [2]) (by kernel_rfl) (by simp) ?_; refine Lw.cons1 (i := 2) rfl (fun K hK => ?_) AllReadyH.nil; refine Lw.step_app elByte rfl _ _ rfl rfl own3 rfl (R.out.below (Nat.le_refl _) (Below.drew hb3)) (Lw.intsV_one _ _) (by omega) (Below.drew hb3) (Nat.le_refl _) hszr ?_; intro v4 w4 own4 hb4 _ _; refine hK.out _ _ ?_ (fun hHeld => ?_); (focus exact Lw.sm_of hb4); clear hK K; (try simp only [Act.put, List.setIfInBounds_toArray, List.set_cons_zero, List.set_cons_succ]))
  obtain ⟨A4, c4, rfl, _⟩ := Lw.ownsForm own4
  rw [← T.out] at own4
  (refine wpAnyH_ready (rs := [3]) (by kernel_rfl) (by simp) ?_; refine Lw.cons1 (i := 3) rfl (fun K hK => ?_) AllReadyH.nil; go_simp; go_at_call 23; (with_reducible refine (C.out _ _ _ (Lw.Rd.of_own own4)).mono ?_); rintro e w5 ⟨rfl, hb5⟩; refine hK.out _ _ ?_ (fun hHeld => ?_); (focus exact Lw.sm_of (Lw.bt hb4 hb5)); clear hK K; (try simp only [Act.put, List.setIfInBounds_toArray, List.set_cons_zero, List.set_cons_succ]))
  (refine Lw.take1 (i := 6) (v := ?_) rfl (by kernel_rfl) (by kernel_rfl) (by kernel_rfl) (fun _ _ _ h => h) (Or.inl ⟨by rfl, ?_⟩) (by assumption) ?_; rotate_left 1; (focus (intro wS hSw; obtain ⟨hS1, hS2, hS3, hS4⟩ := hSw; go_simp <;> with_reducible rfl)); (try simp only [Act.put, List.setIfInBounds_toArray, List.set_cons_zero, List.set_cons_succ]))
  (refine Lw.take1 (i := 7) (v := ?_) rfl (by kernel_rfl) (by kernel_rfl) (by kernel_rfl) (fun _ _ _ h => h) (Or.inl ⟨by rfl, ?_⟩) (by assumption) ?_; rotate_left 1; (focus (intro wS hSw; obtain ⟨hS1, hS2, hS3, hS4⟩ := hSw; go_simp <;> with_reducible rfl)); (try simp only [Act.put, List.setIfInBounds_toArray, List.set_cons_zero, List.set_cons_succ]))
  refine wpAnyH_done (by kernel_rfl) ?_ _
  go_wp2
  go_ret
  rw [E.out]
  have V : s.tmod Q = s % Q := Int.tmod_eq_emod_of_nonneg s1
  exact ⟨Lw.ret_int V, Lw.bt hB0 (Lw.bt hb4 hb5)⟩
end Go.Proofs.Ytfidmmgcmfnleaa

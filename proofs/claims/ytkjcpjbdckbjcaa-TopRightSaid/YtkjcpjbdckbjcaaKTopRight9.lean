/-
  The reference's Shake.
  Package relay, plain: layers that are put on and taken off again leave a cell as it was, but for what an enemy turned; what a script does.
  cell.Read and the reference's ReadCell in one contract each: the code and the body that are read.
  Package relay: layers put on and taken off, an enemy on a link.
  Package relay: what is wrong with a hop; a cell sent there.
-/
import Derived.Test.YtkjcpjbdckbjcaaKTopRight8
import Derived.Test.YtkjcpjbdckbjcaaKTopRight3
import Derived.Test.YtkjcpjbdckbjcaaKTopRight0
import Derived.Test.YtkjcpjbdckbjcaaKTopRight1
set_option linter.unusedVariables false
set_option linter.unusedSimpArgs false
namespace Go.Proofs.Ytkjcpjbdckbjcaa
open Go.RowKit
set_option maxHeartbeats 4000000 in
theorem ref_Shake (P Q G H a k x : Int) (w : World) (h1 : 3 ≤ P) (h2 : P ≤ 1048576) (a1 : 0 ≤ a) (a2 : a ≤ 1048576) (k1 : 0 ≤ k) (k2 : k ≤ 1048576) (x1 : 0 ≤ x) (x2 : x < P) :
    Calls Try.prog 21 #[.agg #[.int .i64 P, .int .i64 Q, .int .i64 G, .int .i64 H], .int .i64 a, .int .i64 k, .int .i64 x] w fun e w' => e = .returned (.agg #[.int .i64 (Lw.pw G k P), .int .i64 (Lw.hsum (2 :: Lw.textL [x, Lw.pw G k P, Lw.pw G a P, Lw.pw x a P, Lw.pw x k P])), .int .i64 (Lw.hsum (1 :: Lw.textL [x, Lw.pw G k P, Lw.pw G a P, Lw.pw x a P, Lw.pw x k P]))]) ∧ Below w.heap.size w w' := by
  obtain ⟨q1, q2⟩ := Lw.pw_bd G a P (by omega)
  obtain ⟨r1, r2⟩ := Lw.pw_bd G k P (by omega)
  obtain ⟨u1, u2⟩ := Lw.pw_bd x a P (by omega)
  obtain ⟨v1, v2⟩ := Lw.pw_bd x k P (by omega)
  have X1 := Lib.hid (fun (w : World) => ref_Pow k.toNat G k P w (Nat.le_refl _) (by omega) (by omega) (by omega) (by omega))
  have X2 := Lib.hid (fun (w : World) => ref_Pow a.toNat G a P w (Nat.le_refl _) (by omega) (by omega) (by omega) (by omega))
  have X3 := Lib.hid (fun (w : World) => ref_Pow a.toNat x a P w (Nat.le_refl _) (by omega) (by omega) (by omega) (by omega))
  have X4 := Lib.hid (fun (w : World) => ref_Pow k.toNat x k P w (Nat.le_refl _) (by omega) (by omega) (by omega) (by omega))
  generalize Lw.pw G a P = s at *
  generalize Lw.pw G k P = f at *
  generalize Lw.pw x a P = u at *
  generalize Lw.pw x k P = v at *
  have TX := Lib.hid (fun (A : Option Addr) (c : Nat) (w : World) R => ref_ShakeText_five A c [x, f, s, u, v] w R (by intro z hz; simp at hz; omega))
  have hy := Lw.textL_byt [x, f, s, u, v]
  have C1 := Lib.hid (fun A c w R => ref_Sum A (1 + 20) c (1 :: Lw.textL [x, f, s, u, v]) w R (Lw.byt_cons (by decide) (by decide) hy) (by omega))
  have C2 := Lib.hid (fun A c w R => ref_Sum A (1 + 20) c (2 :: Lw.textL [x, f, s, u, v]) w R (Lw.byt_cons (by decide) (by decide) hy) (by omega))
  obtain ⟨t1, ht1⟩ : ∃ t, Lw.hsum (1 :: Lw.textL [x, f, s, u, v]) = t := ⟨_, rfl⟩
  obtain ⟨t2, ht2⟩ : ∃ t, Lw.hsum (2 :: Lw.textL [x, f, s, u, v]) = t := ⟨_, rfl⟩
  rw [ht1] at C1 ⊢
  rw [ht2] at C2 ⊢
  clear ht1 ht2
  obtain ⟨W0, hW0⟩ : ∃ W, (w.alloc (.cells #[.int .i64 P, .int .i64 Q, .int .i64 G, .int .i64 H] 23)).alloc (.cells #[.int .i64 0, .int .i64 0, .int .i64 0] 52) = W := ⟨_, rfl⟩
  have B0 := Lib.hid (show W0.heap[w.heap.size]? = some (.cells #[.int .i64 P, .int .i64 Q, .int .i64 G, .int .i64 H] 23 (0, 0)) from hW0 ▸ Lw.blk_alloc (Lw.blk_new _ _ _) _)
  have B1 := Lib.hid (show W0.heap[w.heap.size + 1]? = some (.cells #[.int .i64 0, .int .i64 0, .int .i64 0] 52 (0, 0)) from hW0 ▸ Lw.blk_new' (by simp) _ _)
  have hBW : Below w.heap.size w W0 := by rw [← hW0]; (repeat (first | exact Below.refl _ _ | refine Lw.bt ?_ (by assumption) | refine Lw.balloc ?_ _ | refine Lw.bdrewN ?_ _ | refine Below.drew ?_ | refine Lw.bset ?_ (by first | (simp; done) | (simp; omega) | omega) _))
  have z1 : W0.heap.size ≤ w.heap.size + 1 + 1 := by rw [← hW0]; simp
  have z2 : w.heap.size + 1 + 1 ≤ W0.heap.size := by rw [← hW0]; simp
  have HW0 := Lib.hid hW0
  clear hW0
  have g0 : w.heap.size < W0.heap.size := by omega
  have g1 : w.heap.size + 1 < W0.heap.size := by omega
  have m0 := Lw.blk_cell B0.out 0; have m1 := Lw.blk_cell B0.out 1; have m2 := Lw.blk_cell B0.out 2; have m3 := Lw.blk_cell B0.out 3
  simp at m0 m1 m2 m3
  go_enter Try.func21, Try.ntmps21
  go_wp2_with fail
  rw [HW0.out]
  refine (X1.out _).mono ?_
  rintro e w' ⟨rfl, rfl⟩
  go_wp2_with fail
  have hS0 := Lw.sm_drew W0
  refine wp_region_held_drew (S := Lw.Sm W0) (by kernel_rfl) hS0 (fun hHeld => ?_)
  (refine Lw.take1 (i := 0) (v := ?_) rfl (by kernel_rfl) (by kernel_rfl) (by kernel_rfl) (fun _ _ _ h => h) (Or.inl ⟨by rfl, ?_⟩) (by assumption) ?_; rotate_left 1; (focus (intro wS hSw; obtain ⟨hS1, hS2, hS3, hS4⟩ := hSw; go_simp <;> with_reducible rfl)); (try simp only [Act.put, List.setIfInBounds_toArray, List.set_cons_zero, List.set_cons_succ]))
  (refine Lw.take1 (i := 1) (v := ?_) rfl (by kernel_rfl) (by kernel_rfl) (by kernel_rfl) (fun _ _ _ h => h) (Or.inl ⟨by rfl, ?_⟩) (by assumption) ?_; rotate_left 1; (focus (intro wS hSw; obtain ⟨hS1, hS2, hS3, hS4⟩ := hSw; go_simp <;> with_reducible rfl)); (try simp only [Act.put, List.setIfInBounds_toArray, List.set_cons_zero, List.set_cons_succ]))
  (refine Lw.take1 (i := 2) (v := ?_) rfl (by kernel_rfl) (by kernel_rfl) (by kernel_rfl) (fun _ _ _ h => h) (Or.inl ⟨by rfl, ?_⟩) (by assumption) ?_; rotate_left 1; (focus (intro wS hSw; obtain ⟨hS1, hS2, hS3, hS4⟩ := hSw; go_simp <;> with_reducible rfl)); (try simp only [Act.put, List.setIfInBounds_toArray, List.set_cons_zero, List.set_cons_succ]))
  (refine Lw.take1 (i := 3) (v := ?_) rfl (by kernel_rfl) (by kernel_rfl) (by kernel_rfl) (fun _ _ _ h => h) (Or.inl ⟨by rfl, ?_⟩) (by assumption) ?_; rotate_left 1; (focus (intro wS hSw; obtain ⟨hS1, hS2, hS3, hS4⟩ := hSw; go_simp <;> with_reducible rfl)); (try simp only [Act.put, List.setIfInBounds_toArray, List.set_cons_zero, List.set_cons_succ]))
  (refine Lw.take1 (i := 4) (v := ?_) rfl (by kernel_rfl) (by kernel_rfl) (by kernel_rfl) (fun _ _ _ h => h) (Or.inl ⟨by rfl, ?_⟩) (by assumption) ?_; rotate_left 1; (focus (intro wS hSw; obtain ⟨hS1, hS2, hS3, hS4⟩ := hSw; go_simp <;> with_reducible rfl)); (try simp only [Act.put, List.setIfInBounds_toArray, List.set_cons_zero, List.set_cons_succ]))
  (refine Lw.take1 (i := 5) (v := ?_) rfl (by kernel_rfl) (by kernel_rfl) (by kernel_rfl) (fun _ _ _ h => h) (Or.inl ⟨by rfl, ?_⟩) (by assumption) ?_; rotate_left 1; (focus (intro wS hSw; obtain ⟨hS1, hS2, hS3, hS4⟩ := hSw; go_simp <;> with_reducible rfl)); (try simp only [Act.put, List.setIfInBounds_toArray, List.set_cons_zero, List.set_cons_succ]))
  (refine Lw.take1 (i := 6) (v := ?_) rfl (by kernel_rfl) (by kernel_rfl) (by kernel_rfl) (fun _ _ _ h => h) (Or.inl ⟨by rfl, ?_⟩) (by assumption) ?_; rotate_left 1; (focus (intro wS hSw; obtain ⟨hS1, hS2, hS3, hS4⟩ := hSw; go_simp <;> with_reducible rfl)); (try simp only [Act.put, List.setIfInBounds_toArray, List.set_cons_zero, List.set_cons_succ]))
  (refine Lw.take1 (i := 8) (v := ?_) rfl (by kernel_rfl) (by kernel_rfl) (by kernel_rfl) (fun _ _ _ h => h) (Or.inl ⟨by rfl, ?_⟩) (by assumption) ?_; rotate_left 1; (focus (intro wS hSw; obtain ⟨hS1, hS2, hS3, hS4⟩ := hSw; go_simp <;> with_reducible rfl)); (try simp only [Act.put, List.setIfInBounds_toArray, List.set_cons_zero, List.set_cons_succ]))
  (refine Lw.take1 (i := 9) (v := ?_) rfl (by kernel_rfl) (by kernel_rfl) (by kernel_rfl) (fun _ _ _ h => h) (Or.inl ⟨by rfl, ?_⟩) (by assumption) ?_; rotate_left 1; (focus (intro wS hSw; obtain ⟨hS1, hS2, hS3, hS4⟩ := hSw; go_simp <;> with_reducible rfl)); (try simp only [Act.put, List.setIfInBounds_toArray, List.set_cons_zero, List.set_cons_succ]))
  (refine Lw.take1 (i := 10) (v := ?_) rfl (by kernel_rfl) (by kernel_rfl) (by kernel_rfl) (fun _ _ _ h => h) (Or.inl ⟨by rfl, ?_⟩) (by assumption) ?_; rotate_left 1; (focus (intro wS hSw; obtain ⟨hS1, hS2, hS3, hS4⟩ := hSw; go_simp <;> with_reducible rfl)); (try simp only [Act.put, List.setIfInBounds_toArray, List.set_cons_zero, List.set_cons_succ]))
  (refine Lw.take1 (i := 11) (v := ?_) rfl (by kernel_rfl) (by kernel_rfl) (by kernel_rfl) (fun _ _ _ h => h) (Or.inl ⟨by rfl, ?_⟩) (by assumption) ?_; rotate_left 1; (focus (intro wS hSw; obtain ⟨hS1, hS2, hS3, hS4⟩ := hSw; go_simp <;> with_reducible rfl)); (try simp only [Act.put, List.setIfInBounds_toArray, List.set_cons_zero, List.set_cons_succ]))
  (refine Lw.take1 (i := 13) (v := ?_) rfl (by kernel_rfl) (by kernel_rfl) (by kernel_rfl) (fun _ _ _ h => h) (Or.inl ⟨by rfl, ?_⟩) (by assumption) ?_; rotate_left 1; (focus (intro wS hSw; obtain ⟨hS1, hS2, hS3, hS4⟩ := hSw; go_simp <;> with_reducible rfl)); (try simp only [Act.put, List.setIfInBounds_toArray, List.set_cons_zero, List.set_cons_succ]))
  (refine Lw.take1 (i := 14) (v := ?_) rfl (by kernel_rfl) (by kernel_rfl) (by kernel_rfl) (fun _ _ _ h => h) (Or.inl ⟨by rfl, ?_⟩) (by assumption) ?_; rotate_left 1; (focus (intro wS hSw; obtain ⟨hS1, hS2, hS3, hS4⟩ := hSw; go_simp <;> with_reducible rfl)); (try simp only [Act.put, List.setIfInBounds_toArray, List.set_cons_zero, List.set_cons_succ]))
  (refine Lw.take1 (i := 15) (v := ?_) rfl (by kernel_rfl) (by kernel_rfl) (by kernel_rfl) (fun _ _ _ h => h) (Or.inl ⟨by rfl, ?_⟩) (by assumption) ?_; rotate_left 1; (focus (intro wS hSw; obtain ⟨hS1, hS2, hS3, hS4⟩ := hSw; go_simp <;> with_reducible rfl)); (try simp only [Act.put, List.setIfInBounds_toArray, List.set_cons_zero, List.set_cons_succ]))
  (refine Lw.take1 (i := 16) (v := ?_) rfl (by kernel_rfl) (by kernel_rfl) (by kernel_rfl) (fun _ _ _ h => h) (Or.inl ⟨by rfl, ?_⟩) (by assumption) ?_; rotate_left 1; (focus (intro wS hSw; obtain ⟨hS1, hS2, hS3, hS4⟩ := hSw; go_simp <;> with_reducible rfl)); (try simp only [Act.put, List.setIfInBounds_toArray, List.set_cons_zero, List.set_cons_succ]))
  (refine wpAnyH_ready (rs := [7]) (by kernel_rfl) (by simp) ?_; refine Lw.cons1 (i := 7) rfl (fun K hK => ?_) AllReadyH.nil; go_simp; go_at_call 20; (with_reducible refine (X2.out _).mono ?_); rintro e wx ⟨rfl, rfl⟩; refine hK.out _ _ ?_ (fun hHeld => ?_); (focus exact hS0); clear hK K; (try simp only [Act.put, List.setIfInBounds_toArray, List.set_cons_zero, List.set_cons_succ]))
  (refine wpAnyH_ready (rs := [12]) (by kernel_rfl) (by simp) ?_; refine Lw.cons1 (i := 12) rfl (fun K hK => ?_) AllReadyH.nil; go_simp; go_at_call 20; (with_reducible refine (X3.out _).mono ?_); rintro e wx ⟨rfl, rfl⟩; refine hK.out _ _ ?_ (fun hHeld => ?_); (focus exact hS0); clear hK K; (try simp only [Act.put, List.setIfInBounds_toArray, List.set_cons_zero, List.set_cons_succ]))
  (refine wpAnyH_ready (rs := [17]) (by kernel_rfl) (by simp) ?_; refine Lw.cons1 (i := 17) rfl (fun K hK => ?_) AllReadyH.nil; go_simp; go_at_call 20; (with_reducible refine (X4.out _).mono ?_); rintro e wx ⟨rfl, rfl⟩; refine hK.out _ _ ?_ (fun hHeld => ?_); (focus exact hS0); clear hK K; (try simp only [Act.put, List.setIfInBounds_toArray, List.set_cons_zero, List.set_cons_succ]))
  (refine wpAnyH_ready (rs := [18]) (by kernel_rfl) (by simp) ?_; refine Lw.cons1 (i := 18) rfl (fun K hK => ?_) AllReadyH.nil; go_simp; refine hK.out _ _ ?_ (fun hHeld => ?_); (focus exact Lw.sm_of (Below.drew (Lw.balloc (Below.refl _ _) _))); clear hK K; (try simp only [Act.put, List.setIfInBounds_toArray, List.set_cons_zero, List.set_cons_succ]))
  (refine wpAnyH_ready (rs := [19]) (by kernel_rfl) (by simp) ?_; refine Lw.cons1 (i := 19) rfl (fun K hK => ?_) AllReadyH.nil; go_simp; go_at_call 42; (with_reducible refine (TX.out _ _ _ (by exact Lw.Rd.lit (Lw.blk_drew (Lw.blk_new _ _ _)) rfl rfl)).mono ?_); rintro e w6 ⟨A6, c6, rfl, own6, hb6⟩; refine hK.out _ _ ?_ (fun hHeld => ?_); (focus exact Lw.sm_of (Lw.bt (Below.drew (Lw.balloc (Below.refl _ _) _)) hb6)); clear hK K; (try simp only [Act.put, List.setIfInBounds_toArray, List.set_cons_zero, List.set_cons_succ]))
  (refine Lw.take1 (i := 20) (v := ?_) rfl (by kernel_rfl) (by kernel_rfl) (by kernel_rfl) (fun _ _ _ h => h) (Or.inl ⟨by rfl, ?_⟩) (by assumption) ?_; rotate_left 1; (focus (intro wS hSw; obtain ⟨hS1, hS2, hS3, hS4⟩ := hSw; go_simp <;> with_reducible rfl)); (try simp only [Act.put, List.setIfInBounds_toArray, List.set_cons_zero, List.set_cons_succ]))
  refine wpAnyH_done (by kernel_rfl) ?_ _
  have hB6 : Below W0.heap.size W0 w6 := Lw.bt (Below.drew (Lw.balloc (Below.refl _ _) _)) hb6
  clear hHeld hS0 hb6
  have R6 := Lib.hid (Lw.Rd.of_own own6)
  clear own6 m0 m1 m2 m3
  go_wp2_with (at_builtin; refine Lw.wpList_app elByte rfl (.tmp 38) (.tmp 39) rfl rfl (Lw.own_lit w6 (xs := [.int .u8 1]) rfl rfl (by decide) (Nat.le_refl _)) rfl (R6.out.alloc _) (Lw.intsV_one _ _) (by omega) (Lw.balloc (Below.refl _ _) _) (Nat.le_refl _) (by simp) ?_; intro v1 w7 own7 hb7 hg7 _)
  obtain ⟨A7, c7, rfl, _⟩ := Lw.ownsForm own7
  refine (C1.out _ _ _ (Lw.Rd.of_own own7)).mono ?_
  rintro e w8 ⟨rfl, hb8⟩
  have hb78 := Lw.bt hb7 hb8
  clear own7
  go_wp2_with (at_builtin; refine Lw.wpList_app elByte rfl (.tmp 42) (.tmp 43) rfl rfl (Lw.own_lit w8 (xs := [.int .u8 2]) rfl rfl (by decide) (Nat.le_refl _)) rfl ((R6.out.below (Nat.le_refl _) hb78).alloc _) (Lw.intsV_one _ _) (by omega) (Lw.balloc hb78 _) hb78.size (by simp) ?_; intro v3 w9 own9 hb9 _ _)
  obtain ⟨A9, c9, rfl, _⟩ := Lw.ownsForm own9
  refine (C2.out _ _ _ (Lw.Rd.of_own own9)).mono ?_
  rintro e w10 ⟨rfl, hb10⟩
  clear own9
  have hB10 := Lw.bt hB6 (Lw.bt hb9 hb10)
  have B110 := Lib.hid ((hB10.block _ g1).trans B1.out)
  have l0 := Lw.blk_cell B110.out 0; have l1 := Lw.blk_cell B110.out 1; have l2 := Lw.blk_cell B110.out 2; have fr := fun i => Lw.blk_free B110.out i
  simp at l0 l1 l2
  go_wp2_with fail
  refine bodyPost_ret (v := .agg #[.int .i64 f, .int .i64 t2, .int .i64 t1]) (by simp [results, Try.results21, go_sem, l0, l1, l2]) rfl ⟨rfl, ?_⟩
  exact Lw.bset (Lw.bset (Lw.bset (Lw.bt hBW hB10) (by simp) _) (by simp) _) (by simp) _
end Go.Proofs.Ytkjcpjbdckbjcaa
set_option linter.unusedVariables false
namespace Lw
open Go Go.RowKit
theorem xorN_back (a b : Int) (ha : 0 ≤ a) : xorI (xorI a b) b = a := by
  unfold xorI
  rw [Int.toNat_natCast, Nat.xor_assoc, Nat.xor_self, Nat.xor_zero]
  omega
theorem xorI_zero {a : Int} (ha : 0 ≤ a) : xorI a 0 = a := by
  unfold xorI; simp; omega
theorem xorI_comm3 (a b c : Int) : xorI (xorI a b) c = xorI (xorI a c) b := by
  unfold xorI
  rw [Int.toNat_natCast, Int.toNat_natCast, Nat.xor_assoc, Nat.xor_comm b.toNat, ← Nat.xor_assoc]
/-- an enemy turns bits of a byte -/
def turnL (a : Nat) (t : Int) (bs : List Int) : List Int := bs.modify a (fun b => xorI b t)
theorem turnL_length (a : Nat) (t : Int) (bs : List Int) : (turnL a t bs).length = bs.length := by simp [turnL]
theorem turnL_get {a i : Nat} {t : Int} {bs : List Int} (h : i < bs.length) : (turnL a t bs)[i]'(by rw [turnL_length]; exact h) = if a = i then xorI bs[i] t else bs[i] := by simp [turnL, List.getElem_modify]
theorem turnL_byt {a : Nat} {t : Int} {bs : List Int} (h : Byt bs) (t0 : 0 ≤ t) (t1 : t < 256) : Byt (turnL a t bs) := by
  intro x hx
  obtain ⟨i, hi, rfl⟩ := List.getElem_of_mem hx
  have hl : i < bs.length := by rw [turnL_length] at hi; exact hi
  have hb := h _ (List.getElem_mem hl)
  rw [turnL_get hl]
  split
  · exact xorI_byte hb.1 hb.2 t0 t1
  · exact hb
theorem turnL_zero {a : Nat} {bs : List Int} (h : Byt bs) : turnL a 0 bs = bs := by
  apply List.ext_getElem (turnL_length _ _ _)
  intro i h1 h2
  rw [turnL_get h2]
  split
  · exact xorI_zero (h _ (List.getElem_mem h2)).1
  · rfl
theorem turnL_set {a : Nat} {t : Int} {bs : List Int} (h : a < bs.length) : turnL a t bs = bs.set a (xorI bs[a] t) := by
  apply List.ext_getElem (by simp [turnL_length])
  intro i h1 h2
  rw [turnL_get (by simpa using h2), List.getElem_set]
  split
  · next e => subst e; rfl
  · rfl
theorem layL_layL {key count : Int} {bs : List Int} (h : Byt bs) : layL key count (layL key count bs) = bs := by
  apply List.ext_getElem (by simp [layL_length])
  intro i h1 h2
  rw [layL_get (by rw [layL_length]; exact h2), layL_get h2]
  exact xorN_back _ _ (h _ (List.getElem_mem h2)).1
theorem layL_turn {key count : Int} {a : Nat} {t : Int} {bs : List Int} : layL key count (turnL a t bs) = turnL a t (layL key count bs) := by
  apply List.ext_getElem (by simp [layL_length, turnL_length])
  intro i h1 h2
  have h3 : i < bs.length := by simpa [layL_length, turnL_length] using h1
  rw [layL_get (by rw [turnL_length]; exact h3), turnL_get h3, turnL_get (by rw [layL_length]; exact h3), layL_get h3]
  split
  · exact xorI_comm3 _ _ _
  · rfl
/-- all layers are on -/
def layA (count : Int) : List Int → List Int → List Int
  | [], bs => bs
  | k :: ks, bs => layL k count (layA count ks bs)
theorem layA_length (count : Int) : ∀ (ks bs : List Int), (layA count ks bs).length = bs.length
  | [], _ => rfl
  | k :: ks, bs => by rw [layA, layL_length, layA_length count ks]
theorem layA_byt {count : Int} {bs : List Int} (h : Byt bs) : ∀ ks : List Int, Byt (layA count ks bs)
  | [] => h
  | k :: ks => layL_byt (layA_byt h ks)
theorem layA_turn {count : Int} {a : Nat} {t : Int} {bs : List Int} : ∀ ks : List Int, layA count ks (turnL a t bs) = turnL a t (layA count ks bs)
  | [] => rfl
  | k :: ks => by rw [layA, layA, layA_turn ks, layL_turn]
/-- what the enemy's link turns -/
def turnI (c : Bool) (a : Nat) (t : Int) (bs : List Int) : List Int := if c then turnL a t bs else bs
theorem turnI_cases {x y z : Bool} {a : Nat} {t : Int} {bs : List Int} (h : z = true ↔ x = true ∨ y = true) (h2 : ¬ (x = true ∧ y = true)) : turnI y a t (turnI x a t bs) = turnI z a t bs := by
  cases x <;> cases y <;> cases z <;> simp [turnI] at *
theorem turnI_length (c : Bool) (a : Nat) (t : Int) (bs : List Int) : (turnI c a t bs).length = bs.length := by unfold turnI; split <;> simp [turnL_length]
theorem turnI_byt {c : Bool} {a : Nat} {t : Int} {bs : List Int} (h : Byt bs) (t0 : 0 ≤ t) (t1 : t < 256) : Byt (turnI c a t bs) := by
  unfold turnI; split
  · exact turnL_byt h t0 t1
  · exact h
theorem turnI_lay {c : Bool} {key count : Int} {a : Nat} {t : Int} {bs : List Int} : layL key count (turnI c a t bs) = turnI c a t (layL key count bs) := by
  unfold turnI; split
  · exact layL_turn
  · rfl
/-- on the way there: i relays have taken their layers off -/
def thereS (ks : List Int) (count link : Int) (a : Nat) (t : Int) (cell : List Int) (i : Nat) : List Int := turnI (decide (link < (i : Int))) a t (layA count (ks.drop i) cell)
theorem there_zero {ks : List Int} {count link : Int} {a : Nat} {t : Int} {cell : List Int} (h : 0 ≤ link) : thereS ks count link a t cell 0 = layA count ks cell := by
  unfold thereS turnI
  rw [if_neg (by simp; omega), List.drop_zero]
theorem there_step {ks : List Int} {count link : Int} {a : Nat} {t : Int} {cell : List Int} {i : Nat} (hi : i < ks.length) (hc : Byt cell) (t0 : 0 ≤ t) (t1 : t < 256) :
    layL ks[i] count (turnI (decide (link = (i : Int))) a t (thereS ks count link a t cell i)) = thereS ks count link a t cell (i + 1) := by
  have hd : ks.drop i = ks[i] :: ks.drop (i + 1) := List.drop_eq_getElem_cons hi
  unfold thereS
  rw [hd, layA, turnI_lay, turnI_lay, layL_layL (layA_byt hc _)]
  exact turnI_cases (by simp; omega) (by simp; omega)
theorem there_end {ks : List Int} {count link : Int} {a : Nat} {t : Int} {cell : List Int} (h : link < (ks.length : Int)) : thereS ks count link a t cell ks.length = turnL a t cell := by
  unfold thereS turnI
  rw [if_pos (by simpa using h), List.drop_length, layA]
/-- on the way home: the relays from i on have put their layers on -/
def homeS (ks : List Int) (count link : Int) (a : Nat) (t : Int) (cell : List Int) (i : Nat) : List Int := turnI (decide ((i : Int) ≤ link)) a t (layA count (ks.drop i) cell)
theorem home_zero {ks : List Int} {count link : Int} {a : Nat} {t : Int} {cell : List Int} (h : link < (ks.length : Int)) : homeS ks count link a t cell ks.length = cell := by
  unfold homeS turnI
  rw [if_neg (by simp; omega), List.drop_length, layA]
theorem home_step {ks : List Int} {count link : Int} {a : Nat} {t : Int} {cell : List Int} {i : Nat} (hi : i < ks.length) :
    turnI (decide (link = (i : Int))) a t (layL ks[i] count (homeS ks count link a t cell (i + 1))) = homeS ks count link a t cell i := by
  have hd : ks.drop i = ks[i] :: ks.drop (i + 1) := List.drop_eq_getElem_cons hi
  unfold homeS
  rw [hd, layA, turnI_lay]
  exact turnI_cases (by simp; omega) (by simp; omega)
/-- who calls takes all layers off -/
def offS (ks : List Int) (count : Int) (a : Nat) (t : Int) (cell : List Int) (i : Nat) : List Int := turnL a t (layA count (ks.drop i) cell)
theorem off_zero {ks : List Int} {count link : Int} {a : Nat} {t : Int} {cell : List Int} (h : 0 ≤ link) : homeS ks count link a t cell 0 = offS ks count a t cell 0 := by
  unfold homeS offS turnI
  rw [if_pos (by simpa using h)]
theorem off_step {ks : List Int} {count : Int} {a : Nat} {t : Int} {cell : List Int} {i : Nat} (hi : i < ks.length) (hc : Byt cell) : layL ks[i] count (offS ks count a t cell i) = offS ks count a t cell (i + 1) := by
  have hd : ks.drop i = ks[i] :: ks.drop (i + 1) := List.drop_eq_getElem_cons hi
  unfold offS
  rw [hd, layA, layL_turn, layL_layL (layA_byt hc _)]
theorem off_end {ks : List Int} {count : Int} {a : Nat} {t : Int} {cell : List Int} : offS ks count a t cell ks.length = turnL a t cell := by
  unfold offS; rw [List.drop_length, layA]
theorem cellL_byt {key count : Int} {body : List Int} (h : body.length ≤ 14) (hb : Byt body) : Byt (cellL key count body) := (cellH_byt h hb).app (sumL_byt _ _ _)
theorem cellL_length {key count : Int} {body : List Int} (h : body.length ≤ 14) : (cellL key count body).length = 17 := by
  unfold cellL sumL; rw [List.length_append, cellH_length h, littleL_length]
/-- what is read of a cell: the code, the body -/
def readC (key count : Int) (bs : List Int) : Int × List Int :=
  if bs.drop 15 = sumL key count (bs.take 15) then (if bs.getD 0 0 ≤ 14 ∧ ((bs.take 15).drop (1 + (bs.getD 0 0).toNat)).all (· == 0) = true then (0, (bs.drop 1).take (bs.getD 0 0).toNat) else (4, [])) else (8, [])
/-- a hop of a script -/
structure Hp where
  kd : Int
  k : Int
  l : Int
  A : Option Addr
  n : Nat
  c : Nat
  zs : List Int
  lk : Int
  at' : Int
  tn : Int
def Hp.vs (h : Hp) : List Value := [.int .i64 h.kd, .int .i64 h.k, .int .i64 h.l, .slice h.A h.n h.c, .int .i64 h.lk, .int .i64 h.at', .int .u8 h.tn]
def Hp.ok (w : World) (h : Hp) : Prop := Rd w 1 h.A h.n (intsV .u8 h.zs) ∧ Byt h.zs ∧ 0 ≤ h.tn ∧ h.tn < 256
def hpsV (L : List Hp) : List Value := (L.map Hp.vs).flatten
/-- where a way stands -/
structure Wy where
  keys : List Int
  there : Nat
  home : Nat
/-- the key that a relay and who calls have -/
def keyOf (P G s k l : Int) : Int := hsum (1 :: textL [pw G k P, pw G l P, pw G s P, pw (pw G k P) s P, pw (pw G k P) l P])
/-- what is wrong with what is to be sent -/
def wrongE (n : Nat) (h : Hp) : Int := if n = 0 then 7 else if 14 < h.n then 1 else if ¬ h.tn = 0 ∧ (h.lk < 0 ∨ (n : Int) ≤ h.lk ∨ h.at' < 0 ∨ 17 ≤ h.at') then 3 else 0
/-- what comes out of what is sent -/
def sendC (keys : List Int) (count : Int) (h : Hp) : Int × List Int := readC (keys.getLastD 0) count (turnL h.at'.toNat h.tn (cellL (keys.getLastD 0) count h.zs))
def rlStep (P Q G : Int) (ss : List Int) (s : Wy) (h : Hp) : (Int × List Int) × Wy :=
  if h.kd = 1 then
    if s.keys.length = ss.length then ((7, []), s)
    else if h.k < 0 ∨ Q ≤ h.k ∨ h.l < 0 ∨ Q ≤ h.l then ((2, []), s)
    else ((0, littleL (keyOf P G (ss.getD s.keys.length 0) h.k h.l) 2), { s with keys := s.keys ++ [keyOf P G (ss.getD s.keys.length 0) h.k h.l] })
  else if h.kd = 2 then
    if wrongE s.keys.length h = 0 then (sendC s.keys s.there h, { s with there := s.there + 1 }) else ((wrongE s.keys.length h, []), s)
  else if h.kd = 3 then
    if wrongE s.keys.length h = 0 then (sendC s.keys (s.home + 1073741824) h, { s with home := s.home + 1 }) else ((wrongE s.keys.length h, []), s)
  else ((6, []), s)
/-- a script -/
def rlRun (P Q G : Int) (ss : List Int) (L : List Hp) : List (Int × List Int) × Wy :=
  L.foldl (fun o h => (o.1 ++ [(rlStep P Q G ss o.2 h).1], (rlStep P Q G ss o.2 h).2)) ([], ⟨[], 0, 0⟩)
end Lw
namespace Lw
open Go Go.RowKit
theorem readC_sum {key count : Int} {bs : List Int} (h : ¬ bs.drop 15 = sumL key count (bs.take 15)) : readC key count bs = (8, []) := by unfold readC; rw [if_neg h]
theorem readC_ok {key count : Int} {bs : List Int} {m : Nat} (h : bs.drop 15 = sumL key count (bs.take 15)) (hm : bs[0]? = some (m : Int)) (h14 : m ≤ 14) (hz : ((bs.take 15).drop (1 + m)).all (· == 0) = true) : readC key count bs = (0, (bs.drop 1).take m) := by
  have e : bs.getD 0 0 = (m : Int) := by rw [List.getD_eq_getElem?_getD, hm]; rfl
  unfold readC
  rw [if_pos h, e, Int.toNat_natCast, if_pos ⟨by omega, hz⟩]
theorem readC_form {key count : Int} {bs : List Int} {m : Nat} (h : bs.drop 15 = sumL key count (bs.take 15)) (hm : bs[0]? = some (m : Int)) (hz : 14 < m ∨ ((bs.take 15).drop (1 + m)).all (· == 0) = false) : readC key count bs = (4, []) := by
  have e : bs.getD 0 0 = (m : Int) := by rw [List.getD_eq_getElem?_getD, hm]; rfl
  unfold readC
  rw [if_pos h, e, Int.toNat_natCast, if_neg]
  rintro ⟨h1, h2⟩
  rcases hz with h3 | h3
  · omega
  · rw [h2] at h3; cases h3
end Lw
set_option linter.unusedVariables false
set_option linter.unusedSimpArgs false
namespace Go.Proofs.Ytkjcpjbdckbjcaa
open Go.RowKit
/-- what is read, as a result in memory -/
def ReadRes (t : TypeId) (r : Int × List Int) (w : World) (e : Ending) (w' : World) : Prop := ∃ A c, e = .returned (.tuple #[.slice A r.2.length c, .int .i64 r.1]) ∧ w'.ownsRow w.heap.size t 1 (.slice A r.2.length c) r.2.length (Lw.intsV .u8 r.2) ∧ Below w.heap.size w w'
theorem readRes_nil (t : TypeId) (E : Int) {w w' : World} (h : Below w.heap.size w w') : ReadRes t (E, []) w (.returned (.tuple #[.slice none 0 0, .int .i64 E])) w' := ⟨none, 0, rfl, World.ownsRow_nil _ _ _ _, h⟩
theorem cell_Read (key count : Int) (A : Option Addr) (c : Nat) (bs : List Int) (w : World) (R : Lw.Rd w 1 A 17 (Lw.intsV .u8 bs)) (hy : Lw.Byt bs) (hc : 17 ≤ c) (k1 : 0 ≤ key) (k2 : key < 65536) (c1 : 0 ≤ count) (c2 : count ≤ 2147483648) :
    Calls Try.prog 39 #[.int .i64 key, .int .i64 count, .slice A 17 c] w (ReadRes 5 (Lw.readC key count bs) w) := by
  obtain ⟨ad, rfl, _⟩ := R.2 (by decide)
  have hbl : bs.length = 17 := by have := R.1; simpa [Lw.intsV] using this
  by_cases hs : bs.drop 15 = Lw.sumL key count (bs.take 15)
  · have h0 : 0 < bs.length := by rw [hbl]; decide
    obtain ⟨mb1, mb2⟩ := hy _ (List.getElem_mem h0)
    obtain ⟨m, hm0⟩ := Int.eq_ofNat_of_zero_le mb1
    have hm : bs[0]? = some (m : Int) := by rw [List.getElem?_eq_getElem h0, hm0]
    by_cases hm14 : m ≤ 14
    · cases hz : ((bs.take 15).drop (1 + m)).all (· == 0)
      · rw [Lw.readC_form hs hm (.inr hz)]
        exact (cell_Read_zero key count ad c bs w R hy hc k1 k2 c1 c2 hs m hm hm14 hz).mono fun e w' ⟨h1, h2⟩ => by subst h1; exact readRes_nil _ _ h2
      · rw [Lw.readC_ok hs hm hm14 hz]
        have l : ((bs.drop 1).take m).length = m := by simp; omega
        refine (cell_Read_ok key count ad c bs w R hy hc k1 k2 c1 c2 hs m hm hm14 hz).mono fun e w' h => ?_
        obtain ⟨A', c', h1, h2, h3⟩ := h
        refine ⟨A', c', ?_, ?_, h3⟩
        · simp only [l]; exact h1
        · simp only [l]; exact h2
    · rw [Lw.readC_form hs hm (.inl (by omega))]
      exact (cell_Read_big key count ad c bs w R hy hc k1 k2 c1 c2 hs m hm (by omega)).mono fun e w' ⟨h1, h2⟩ => by subst h1; exact readRes_nil _ _ h2
  · rw [Lw.readC_sum hs]
    exact (cell_Read_sum key count ad c bs w R hy hc k1 k2 c1 c2 hs).mono fun e w' ⟨h1, h2⟩ => by subst h1; exact readRes_nil _ _ h2
theorem ref_ReadCell (key count : Int) (A : Option Addr) (c : Nat) (bs : List Int) (w : World) (R : Lw.Rd w 1 A 17 (Lw.intsV .u8 bs)) (hy : Lw.Byt bs) (hc : 17 ≤ c) (k1 : 0 ≤ key) (k2 : key < 65536) (c1 : 0 ≤ count) (c2 : count ≤ 2147483648) :
    Calls Try.prog 25 #[.int .i64 key, .int .i64 count, .slice A 17 c] w (ReadRes 5 (Lw.readC key count bs) w) := by
  obtain ⟨ad, rfl, _⟩ := R.2 (by decide)
  have hbl : bs.length = 17 := by have := R.1; simpa [Lw.intsV] using this
  by_cases hs : bs.drop 15 = Lw.sumL key count (bs.take 15)
  · have h0 : 0 < bs.length := by rw [hbl]; decide
    obtain ⟨mb1, mb2⟩ := hy _ (List.getElem_mem h0)
    obtain ⟨m, hm0⟩ := Int.eq_ofNat_of_zero_le mb1
    have hm : bs[0]? = some (m : Int) := by rw [List.getElem?_eq_getElem h0, hm0]
    by_cases hm14 : m ≤ 14
    · cases hz : ((bs.take 15).drop (1 + m)).all (· == 0)
      · rw [Lw.readC_form hs hm (.inr hz)]
        exact (ref_ReadCell_zero key count ad c bs w R hy hc k1 k2 c1 c2 hs m hm hm14 hz).mono fun e w' ⟨h1, h2⟩ => by subst h1; exact readRes_nil _ _ h2
      · rw [Lw.readC_ok hs hm hm14 hz]
        have l : ((bs.drop 1).take m).length = m := by simp; omega
        refine (ref_ReadCell_ok key count ad c bs w R hy hc k1 k2 c1 c2 hs m hm hm14 hz).mono fun e w' h => ?_
        obtain ⟨A', c', h1, h2, h3⟩ := h
        refine ⟨A', c', ?_, ?_, h3⟩
        · simp only [l]; exact h1
        · simp only [l]; exact h2
    · rw [Lw.readC_form hs hm (.inl (by omega))]
      exact (ref_ReadCell_big key count ad c bs w R hy hc k1 k2 c1 c2 hs m hm (by omega)).mono fun e w' ⟨h1, h2⟩ => by subst h1; exact readRes_nil _ _ h2
  · rw [Lw.readC_sum hs]
    exact (ref_ReadCell_sum key count ad c bs w R hy hc k1 k2 c1 c2 hs).mono fun e w' ⟨h1, h2⟩ => by subst h1; exact readRes_nil _ _ h2
end Go.Proofs.Ytkjcpjbdckbjcaa
namespace Lw
open Go Go.RowKit
/-- one block has turned, and new ones are there -/
structure Tn (b : Nat) (w w' : World) : Prop where
  os : w'.os = w.os
  tape : w'.tape = w.tape
  output : w'.output = w.output
  size : w.heap.size ≤ w'.heap.size
  block : ∀ k, k < w.heap.size → k ≠ b → w'.heap[k]? = w.heap[k]?
theorem Tn.refl (b : Nat) (w : World) : Tn b w w := ⟨rfl, rfl, rfl, Nat.le_refl _, fun _ _ _ => rfl⟩
theorem Tn.trans {b : Nat} {u v w : World} (h : Tn b u v) (k : Tn b v w) : Tn b u w :=
  ⟨k.os.trans h.os, k.tape.trans h.tape, k.output.trans h.output, Nat.le_trans h.size k.size, fun j hj h1 => (k.block j (Nat.lt_of_lt_of_le hj h.size) h1).trans (h.block j hj h1)⟩
theorem Tn.of {b : Nat} {w w' : World} (h : Below w.heap.size w w') : Tn b w w' := ⟨h.os, h.tape, h.output, h.size, fun k hk _ => h.block k hk⟩
theorem Tn.set {b : Nat} {w w' : World} (h : Tn b w w') (i : Nat) (v : Value) : Tn b w (w'.setCell ⟨b, i, none⟩ v) :=
  ⟨h.os, h.tape, h.output, by simpa using h.size, fun k hk h1 => (Below.heap_setCell _ _ _ _ (by show k ≠ b; exact h1)).trans (h.block k hk h1)⟩
theorem Tn.drew {b : Nat} {w w' : World} (h : Tn b w w') : Tn b w w'.drew := ⟨h.os, h.tape, h.output, h.size, h.block⟩
theorem Tn.below {b B : Nat} {w w' : World} (h : Tn b w w') (hb : B ≤ b) (hs : B ≤ w.heap.size) : Below B w w' := ⟨h.os, h.tape, h.output, h.size, fun k hk => h.block k (by omega) (by omega)⟩
theorem settwo {W : World} {b : Nat} {v x u : Value} {t : TypeId} (h : W.heap[b]? = some (.cells #[v, x] t (0, 0))) : (W.setCell ⟨b, 0, none⟩ u).heap[b]? = some (.cells #[u, x] t (0, 0)) := by
  have h2 := blk_set_same h 0 u
  simpa using h2
theorem own_tn {base e s n b : Nat} {w w' : World} {v : Value} {xs : List Value} (h : w.ownsRow base e s v n xs) (hg : Tn b w w') (hb : v.ownBlock ≠ some b) : w'.ownsRow base e s v n xs := by
  obtain ⟨hl, h2⟩ := h
  refine ⟨hl, ?_⟩
  rcases h2 with ⟨h0, h1⟩ | ⟨g, cap, cur, hu, hbg, hh, rest⟩
  · exact .inl ⟨h0, h1⟩
  · refine .inr ⟨g, cap, cur, hu, hbg, ?_, rest⟩
    exact (hg.block g (Array.getElem?_eq_some_iff.1 hh).1 (fun e => hb (by subst hu; rw [← e]; rfl))).trans hh
end Lw
set_option linter.unusedVariables false
set_option linter.unusedSimpArgs false
namespace Go.Proofs.Ytkjcpjbdckbjcaa
open Go.RowKit
/-- a cell on its way -/
abbrev SentB (b : Nat) (A : Option Addr) (c : Nat) (count : Int) (w : World) : Prop := w.heap[b]? = some (.cells #[.slice A 17 c, .int .i64 count] 72 (0, 0))
set_option maxHeartbeats 2000000 in
theorem relay_layer (key count : Int) (b : Nat) (A : Option Addr) (c : Nat) (bs : List Int) (w : World) (hb : SentB b A c count w) (R : Lw.Rd w 1 A 17 (Lw.intsV .u8 bs)) (hy : Lw.Byt bs) (k1 : 0 ≤ key) (k2 : key < 65536) (c1 : 0 ≤ count) (c2 : count ≤ 2147483648) :
    Calls Try.prog 37 #[.pointer (some ⟨b, 0, none⟩), .int .i64 key] w fun e w' => e = .returned undef ∧ ∃ A' c', SentB b A' c' count w' ∧ w'.ownsRow w.heap.size 5 1 (.slice A' 17 c') 17 (Lw.intsV .u8 (Lw.layL key count bs)) ∧ Lw.Tn b w w' := by
  have X := Lib.hid (fun w R => cell_Layer_ok key count A c bs w R hy k1 k2 c1 c2)
  have p0 := Lw.blk_cell hb 0
  have p1 := Lw.blk_cell hb 1
  simp at p0 p1
  have hlt := Lw.blk_lt hb
  have HB := Lib.hid hb
  have R := Lib.hid R
  clear hb
  go_enter Try.func37, Try.ntmps37
  go_wp2_with fail
  refine wp_region_held_drew (S := fun w' => w'.cell? ⟨b, 1, none⟩ = some (.int .i64 count) ∧ True ∧ True ∧ True) (by kernel_rfl) (by exact ⟨p1, trivial, trivial, trivial⟩) (fun hHeld => ?_)
  (refine Lw.take1 (i := 0) (v := ?_) rfl (by kernel_rfl) (by kernel_rfl) (by kernel_rfl) (fun _ _ _ h => h) (Or.inl ⟨by rfl, ?_⟩) (by assumption) ?_; rotate_left 1; (focus (intro wS hSw; obtain ⟨hS1, hS2, hS3, hS4⟩ := hSw; go_simp <;> with_reducible rfl)); (try simp only [Act.put, List.setIfInBounds_toArray, List.set_cons_zero, List.set_cons_succ]))
  (refine Lw.take1 (i := 1) (v := ?_) rfl (by kernel_rfl) (by kernel_rfl) (by kernel_rfl) (fun _ _ _ h => h) (Or.inl ⟨by rfl, ?_⟩) (by assumption) ?_; rotate_left 1; (focus (intro wS hSw; obtain ⟨hS1, hS2, hS3, hS4⟩ := hSw; go_simp <;> with_reducible rfl)); (try simp only [Act.put, List.setIfInBounds_toArray, List.set_cons_zero, List.set_cons_succ]))
  (refine Lw.take1 (i := 2) (v := ?_) rfl (by kernel_rfl) (by kernel_rfl) (by kernel_rfl) (fun _ _ _ h => h) (Or.inl ⟨by rfl, ?_⟩) (by assumption) ?_; rotate_left 1; (focus (intro wS hSw; obtain ⟨hS1, hS2, hS3, hS4⟩ := hSw; go_simp <;> with_reducible rfl)); (try simp only [Act.put, List.setIfInBounds_toArray, List.set_cons_zero, List.set_cons_succ]))
  (refine Lw.take1 (i := 3) (v := ?_) rfl (by kernel_rfl) (by kernel_rfl) (by kernel_rfl) (fun _ _ _ h => h) (Or.inl ⟨by rfl, ?_⟩) (by assumption) ?_; rotate_left 1; (focus (intro wS hSw; obtain ⟨hS1, hS2, hS3, hS4⟩ := hSw; go_simp <;> with_reducible rfl)); (try simp only [Act.put, List.setIfInBounds_toArray, List.set_cons_zero, List.set_cons_succ]))
  (refine Lw.take1 (i := 4) (v := ?_) rfl (by kernel_rfl) (by kernel_rfl) (by kernel_rfl) (fun _ _ _ h => h) (Or.inl ⟨by rfl, ?_⟩) (by assumption) ?_; rotate_left 1; (focus (intro wS hSw; obtain ⟨hS1, hS2, hS3, hS4⟩ := hSw; go_simp <;> with_reducible rfl)); (try simp only [Act.put, List.setIfInBounds_toArray, List.set_cons_zero, List.set_cons_succ]))
  (refine Lw.take1 (i := 5) (v := ?_) rfl (by kernel_rfl) (by kernel_rfl) (by kernel_rfl) (fun _ _ _ h => h) (Or.inl ⟨by rfl, ?_⟩) (by assumption) ?_; rotate_left 1; (focus (intro wS hSw; obtain ⟨hS1, hS2, hS3, hS4⟩ := hSw; go_simp <;> with_reducible rfl)); (try simp only [Act.put, List.setIfInBounds_toArray, List.set_cons_zero, List.set_cons_succ]))
  (refine Lw.take1 (i := 6) (v := ?_) rfl (by kernel_rfl) (by kernel_rfl) (by kernel_rfl) (fun _ _ _ h => h) (Or.inl ⟨by rfl, ?_⟩) (by assumption) ?_; rotate_left 1; (focus (intro wS hSw; obtain ⟨hS1, hS2, hS3, hS4⟩ := hSw; go_simp <;> with_reducible rfl)); (try simp only [Act.put, List.setIfInBounds_toArray, List.set_cons_zero, List.set_cons_succ]))
  (refine Lw.take1 (i := 7) (v := ?_) rfl (by kernel_rfl) (by kernel_rfl) (by kernel_rfl) (fun _ _ _ h => h) (Or.inl ⟨by rfl, ?_⟩) (by assumption) ?_; rotate_left 1; (focus (intro wS hSw; obtain ⟨hS1, hS2, hS3, hS4⟩ := hSw; go_simp <;> with_reducible rfl)); (try simp only [Act.put, List.setIfInBounds_toArray, List.set_cons_zero, List.set_cons_succ]))
  (refine Lw.take1 (i := 8) (v := ?_) rfl (by kernel_rfl) (by kernel_rfl) (by kernel_rfl) (fun _ _ _ h => h) (Or.inl ⟨by rfl, ?_⟩) (by assumption) ?_; rotate_left 1; (focus (intro wS hSw; obtain ⟨hS1, hS2, hS3, hS4⟩ := hSw; go_simp <;> with_reducible rfl)); (try simp only [Act.put, List.setIfInBounds_toArray, List.set_cons_zero, List.set_cons_succ]))
  (refine wpAnyH_ready (rs := [9]) (by kernel_rfl) (by simp) ?_; refine Lw.cons1 (i := 9) rfl (fun K hK => ?_) AllReadyH.nil; go_simp; refine hK.out _ _ ?_ (fun hHeld => ?_); (focus exact ⟨p1, trivial, trivial, trivial⟩); clear hK K; (try simp only [Act.put, List.setIfInBounds_toArray, List.set_cons_zero, List.set_cons_succ]))
  (refine wpAnyH_ready (rs := [10]) (by kernel_rfl) (by simp) ?_; refine Lw.cons1 (i := 10) rfl (fun K hK => ?_) AllReadyH.nil; go_simp; go_at_call 55; (with_reducible refine (X.out _ R.out.drew).mono ?_); rintro e w4 ⟨A4, d4, rfl, own4, hb4⟩; refine hK.out _ _ ?_ (fun hHeld => ?_); (focus exact ⟨(hb4.cell (p := ⟨b, 1, none⟩) hlt).trans p1, trivial, trivial, trivial⟩); clear hK K; (try simp only [Act.put, List.setIfInBounds_toArray, List.set_cons_zero, List.set_cons_succ]))
  (refine Lw.take1 (i := 11) (v := ?_) rfl (by kernel_rfl) (by kernel_rfl) (by kernel_rfl) (fun _ _ _ h => h) (Or.inl ⟨by rfl, ?_⟩) (by assumption) ?_; rotate_left 1; (focus (intro wS hSw; obtain ⟨hS1, hS2, hS3, hS4⟩ := hSw; go_simp <;> with_reducible rfl)); (try simp only [Act.put, List.setIfInBounds_toArray, List.set_cons_zero, List.set_cons_succ]))
  (refine Lw.take1 (i := 12) (v := ?_) rfl (by kernel_rfl) (by kernel_rfl) (by kernel_rfl) (fun _ _ _ h => h) (Or.inl ⟨by rfl, ?_⟩) (by assumption) ?_; rotate_left 1; (focus (intro wS hSw; obtain ⟨hS1, hS2, hS3, hS4⟩ := hSw; go_simp <;> with_reducible rfl)); (try simp only [Act.put, List.setIfInBounds_toArray, List.set_cons_zero, List.set_cons_succ]))
  (refine Lw.take1 (i := 13) (v := ?_) rfl (by kernel_rfl) (by kernel_rfl) (by kernel_rfl) (fun _ _ _ h => h) (Or.inl ⟨by rfl, ?_⟩) (by assumption) ?_; rotate_left 1; (focus (intro wS hSw; obtain ⟨hS1, hS2, hS3, hS4⟩ := hSw; go_simp <;> with_reducible rfl)); (try simp only [Act.put, List.setIfInBounds_toArray, List.set_cons_zero, List.set_cons_succ]))
  (refine Lw.take1 (i := 14) (v := ?_) rfl (by kernel_rfl) (by kernel_rfl) (by kernel_rfl) (fun _ _ _ h => h) (Or.inl ⟨by rfl, ?_⟩) (by assumption) ?_; rotate_left 1; (focus (intro wS hSw; obtain ⟨hS1, hS2, hS3, hS4⟩ := hSw; go_simp <;> with_reducible rfl)); (try simp only [Act.put, List.setIfInBounds_toArray, List.set_cons_zero, List.set_cons_succ]))
  (refine Lw.take1 (i := 15) (v := ?_) rfl (by kernel_rfl) (by kernel_rfl) (by kernel_rfl) (fun _ _ _ h => h) (Or.inl ⟨by rfl, ?_⟩) (by assumption) ?_; rotate_left 1; (focus (intro wS hSw; obtain ⟨hS1, hS2, hS3, hS4⟩ := hSw; go_simp <;> with_reducible rfl)); (try simp only [Act.put, List.setIfInBounds_toArray, List.set_cons_zero, List.set_cons_succ]))
  have B4 := (hb4.block b hlt).trans HB.out
  have q0 := Lw.blk_free B4 0
  have r0 := Lw.blk_cell B4 0
  have q1 := Lw.blk_cell (Lw.settwo (u := .slice A4 17 d4) B4) 1
  simp at q1 r0
  (refine wpAnyH_ready (rs := [16]) (by kernel_rfl) (by simp) ?_; refine Lw.cons1 (i := 16) rfl (fun K hK => ?_) AllReadyH.nil; go_simp; refine hK.out _ _ ?_ (fun hHeld => ?_); (focus exact ⟨q1, trivial, trivial, trivial⟩); clear hK K; (try simp only [Act.put, List.setIfInBounds_toArray, List.set_cons_zero, List.set_cons_succ]))
  refine wpAnyH_done (by kernel_rfl) ?_ _
  go_wp2
  go_end0
  have g4 : Lw.Tn b w w4 := Lw.Tn.of (Lw.bt (Below.drew (Below.refl _ _)) hb4)
  exact ⟨rfl, A4, d4, Lw.settwo B4, Lw.own_tn own4 ((Lw.Tn.refl b w4).set 0 _) (fun e => by have := (own4.lt _ e).1; simp at this; omega), g4.set 0 _⟩
abbrev HopC (h : Lw.Hp) : Array Value := #[.int .i64 h.kd, .int .i64 h.k, .int .i64 h.l, .slice h.A h.n h.c, .int .i64 h.lk, .int .i64 h.at', .int .u8 h.tn]
theorem relay_pass_by (h : Lw.Hp) (b : Nat) (i : Int) (w : World) (hn : h.tn = 0 ∨ ¬ h.lk = i) :
    Calls Try.prog 38 #[.pointer (some ⟨b, 0, none⟩), .agg (HopC h), .int .i64 i] w fun e w' => e = .returned undef ∧ Below w.heap.size w w' := by
  obtain ⟨kd, k, l, A, n, c, zs, lk, at', tn⟩ := h
  simp only at hn
  rcases (by omega : tn = 0 ∨ (¬ tn = 0 ∧ ¬ lk = i)) with rfl | ⟨h1, h2⟩
  · clear hn
    go_enter Try.func38, Try.ntmps38
    go_wp2
    go_end0
    exact ⟨rfl, by (repeat (first | exact Below.refl _ _ | refine Lw.bt ?_ (by assumption) | refine Lw.balloc ?_ _ | refine Lw.bdrewN ?_ _ | refine Below.drew ?_ | refine Lw.bset ?_ (by first | (simp; done) | (simp; omega) | omega) _))⟩
  · have z1 : (tn != 0) = true := by simpa using h1
    have z2 : (lk == i) = false := by simpa using h2
    clear hn
    go_enter Try.func38, Try.ntmps38
    go_wp2
    go_end0
    exact ⟨rfl, by (repeat (first | exact Below.refl _ _ | refine Lw.bt ?_ (by assumption) | refine Lw.balloc ?_ _ | refine Lw.bdrewN ?_ _ | refine Below.drew ?_ | refine Lw.bset ?_ (by first | (simp; done) | (simp; omega) | omega) _))⟩
set_option maxHeartbeats 2000000 in
theorem relay_pass_at (h : Lw.Hp) (b base a : Nat) (i count : Int) (A : Option Addr) (c : Nat) (bs : List Int) (w : World) (hb : SentB b A c count w) (own : w.ownsRow base 5 1 (.slice A 17 c) 17 (Lw.intsV .u8 bs)) (hy : Lw.Byt bs) (h0 : ¬ h.tn = 0) (h1 : h.lk = i) (ha : h.at' = (a : Int)) (ha2 : a < 17) (t0 : 0 ≤ h.tn) (t1 : h.tn < 256) :
    Calls Try.prog 38 #[.pointer (some ⟨b, 0, none⟩), .agg (HopC h), .int .i64 i] w fun e w' => e = .returned undef ∧ SentB b A c count w' ∧ w'.ownsRow base 5 1 (.slice A 17 c) 17 (Lw.intsV .u8 (Lw.turnL a h.tn bs)) ∧ ∃ g, (Value.slice A 17 c).ownBlock = some g ∧ Lw.Tn g w w' := by
  obtain ⟨kd, k, l, A', n, c', zs, lk, at', tn⟩ := h
  simp only at h0 h1 ha t0 t1 ⊢
  subst h1 ha
  obtain ⟨g, rfl⟩ : ∃ g, A = some ⟨g, 0, none⟩ := by
    rcases own.2 with ⟨h0, _⟩ | ⟨g, cap, cur, hv, _⟩
    · cases h0
    · injection hv with e1; exact ⟨g, e1⟩
  have l1 : bs.length = 17 := by have := own.1; simpa [Lw.intsV] using this
  have hl : a < bs.length := by omega
  have gets : (Lw.intsV .u8 bs)[a]? = some (.int .u8 bs[a]) := Lw.intsV_get hl
  obtain ⟨c0, f0, hbg, hgl⟩ := Lw.own_cell own gets
  have hne : g ≠ b := fun e => by
    subst e
    rcases own.2 with ⟨h0, _⟩ | ⟨g', cap, cur, hv, _, hh, _⟩
    · cases h0
    · injection hv with e1
      injection e1 with e1
      injection e1 with e1
      subst e1
      rw [hb] at hh
      injection hh with hh
      injection hh with _ h3
      exact absurd h3 (by decide)
  have p0 := Lw.blk_cell hb 0
  simp at p0
  obtain ⟨x0, x1⟩ := hy _ (List.getElem_mem hl)
  have NX : Hid (Lw.intsV .u8 (Lw.turnL a tn bs) = (Lw.intsV .u8 bs).set a (.int .u8 (Lw.xorI bs[a] tn))) := by
    show _ = _
    rw [Lw.turnL_set hl]; unfold Lw.intsV; rw [List.map_set]
  have HX : Go.bits .xor .u8 bs[a] tn = Lw.xorI bs[a] tn := Go.u8_xor _ _ x0 x1 t0 t1
  obtain ⟨x, hx⟩ : ∃ x, bs[a] = x := ⟨_, rfl⟩
  rw [hx] at c0 x0 x1 NX HX
  generalize Lw.xorI x tn = y at *
  have z1 : (tn != 0) = true := by simpa using h0
  have z2 : (lk == lk) = true := by simp
  have hblt := Lw.blk_lt hb
  have HB := Lib.hid hb
  have OWN := Lib.hid own
  have i0 : (0 : Int) ≤ (a : Int) := by omega
  have i1 : (a : Int) < 17 := by omega
  clear hx gets hb own
  obtain ⟨W, hW⟩ : ∃ W, w.alloc (.cells #[.int .i64 kd, .int .i64 k, .int .i64 l, .slice A' n c', .int .i64 lk, .int .i64 (a : Int), .int .u8 tn] 33) = W := ⟨_, rfl⟩
  have BH : W.heap[w.heap.size]? = some (.cells #[.int .i64 kd, .int .i64 k, .int .i64 l, .slice A' n c', .int .i64 lk, .int .i64 (a : Int), .int .u8 tn] 33 (0, 0)) := hW ▸ Lw.blk_new _ _ _
  have m4 := Lw.blk_cell BH 4
  have m5 := Lw.blk_cell BH 5
  have m6 := Lw.blk_cell BH 6
  simp at m4 m5 m6
  have hBW : Below w.heap.size w W := hW ▸ Lw.balloc (Below.refl _ _) _
  have pb := (hBW.cell (p := ⟨b, 0, none⟩) hblt).trans p0
  have pg := (hBW.cell (p := ⟨g, a, none⟩) hgl).trans c0
  have fg := (hBW.frozen (p := ⟨g, a, none⟩) hgl).trans f0
  have KS : ∀ W' : World, (∀ k, k ≠ g → W'.heap[k]? = W.heap[k]?) → W'.cell? ⟨b, 0, none⟩ = some (.slice (some ⟨g, 0, none⟩) 17 c) ∧ W'.cell? ⟨w.heap.size, 5, none⟩ = some (.int .i64 (a : Int)) ∧ W'.cell? ⟨w.heap.size, 6, none⟩ = some (.int .u8 tn) ∧ True := fun W' h => by
    have e1 : ∀ (p : Addr), p.block ≠ g → W'.cell? p = W.cell? p := fun p hp => by unfold World.cell?; rw [h _ hp]
    exact ⟨(e1 _ (by show b ≠ g; omega)).trans pb, (e1 _ (by show w.heap.size ≠ g; omega)).trans m5, (e1 _ (by show w.heap.size ≠ g; omega)).trans m6, trivial⟩
  have KS := Lib.hid KS
  have HW := Lib.hid hW
  clear hW
  go_enter Try.func38, Try.ntmps38
  go_wp2_with fail
  rw [HW.out]
  refine wp_region_held_drew (S := fun w' => w'.cell? ⟨b, 0, none⟩ = some (.slice (some ⟨g, 0, none⟩) 17 c) ∧ w'.cell? ⟨w.heap.size, 5, none⟩ = some (.int .i64 (a : Int)) ∧ w'.cell? ⟨w.heap.size, 6, none⟩ = some (.int .u8 tn) ∧ True) (by kernel_rfl) (by exact ⟨pb, m5, m6, trivial⟩) (fun hHeld => ?_)
  (refine Lw.take1 (i := 0) (v := ?_) rfl (by kernel_rfl) (by kernel_rfl) (by kernel_rfl) (fun _ _ _ h => h) (Or.inl ⟨by rfl, ?_⟩) (by assumption) ?_; rotate_left 1; (focus (intro wS hSw; obtain ⟨hS1, hS2, hS3, hS4⟩ := hSw; go_simp <;> with_reducible rfl)); (try simp only [Act.put, List.setIfInBounds_toArray, List.set_cons_zero, List.set_cons_succ]))
  (refine Lw.take1 (i := 1) (v := ?_) rfl (by kernel_rfl) (by kernel_rfl) (by kernel_rfl) (fun _ _ _ h => h) (Or.inl ⟨by rfl, ?_⟩) (by assumption) ?_; rotate_left 1; (focus (intro wS hSw; obtain ⟨hS1, hS2, hS3, hS4⟩ := hSw; go_simp <;> with_reducible rfl)); (try simp only [Act.put, List.setIfInBounds_toArray, List.set_cons_zero, List.set_cons_succ]))
  (refine Lw.take1 (i := 2) (v := ?_) rfl (by kernel_rfl) (by kernel_rfl) (by kernel_rfl) (fun _ _ _ h => h) (Or.inl ⟨by rfl, ?_⟩) (by assumption) ?_; rotate_left 1; (focus (intro wS hSw; obtain ⟨hS1, hS2, hS3, hS4⟩ := hSw; go_simp <;> with_reducible rfl)); (try simp only [Act.put, List.setIfInBounds_toArray, List.set_cons_zero, List.set_cons_succ]))
  (refine Lw.take1 (i := 3) (v := ?_) rfl (by kernel_rfl) (by kernel_rfl) (by kernel_rfl) (fun _ _ _ h => h) (Or.inl ⟨by rfl, ?_⟩) (by assumption) ?_; rotate_left 1; (focus (intro wS hSw; obtain ⟨hS1, hS2, hS3, hS4⟩ := hSw; go_simp <;> with_reducible rfl)); (try simp only [Act.put, List.setIfInBounds_toArray, List.set_cons_zero, List.set_cons_succ]))
  (refine Lw.take1 (i := 4) (v := ?_) rfl (by kernel_rfl) (by kernel_rfl) (by kernel_rfl) (fun _ _ _ h => h) (Or.inl ⟨by rfl, ?_⟩) (by assumption) ?_; rotate_left 1; (focus (intro wS hSw; obtain ⟨hS1, hS2, hS3, hS4⟩ := hSw; go_simp <;> with_reducible rfl)); (try simp only [Act.put, List.setIfInBounds_toArray, List.set_cons_zero, List.set_cons_succ]))
  (refine Lw.take1 (i := 5) (v := ?_) rfl (by kernel_rfl) (by kernel_rfl) (by kernel_rfl) (fun _ _ _ h => h) (Or.inl ⟨by rfl, ?_⟩) (by assumption) ?_; rotate_left 1; (focus (intro wS hSw; obtain ⟨hS1, hS2, hS3, hS4⟩ := hSw; go_simp <;> with_reducible rfl)); (try simp only [Act.put, List.setIfInBounds_toArray, List.set_cons_zero, List.set_cons_succ]))
  (refine Lw.take1 (i := 6) (v := ?_) rfl (by kernel_rfl) (by kernel_rfl) (by kernel_rfl) (fun _ _ _ h => h) (Or.inl ⟨by rfl, ?_⟩) (by assumption) ?_; rotate_left 1; (focus (intro wS hSw; obtain ⟨hS1, hS2, hS3, hS4⟩ := hSw; go_simp <;> with_reducible rfl)); (try simp only [Act.put, List.setIfInBounds_toArray, List.set_cons_zero, List.set_cons_succ]))
  (refine Lw.take1 (i := 8) (v := ?_) rfl (by kernel_rfl) (by kernel_rfl) (by kernel_rfl) (fun _ _ _ h => h) (Or.inl ⟨by rfl, ?_⟩) (by assumption) ?_; rotate_left 1; (focus (intro wS hSw; obtain ⟨hS1, hS2, hS3, hS4⟩ := hSw; go_simp <;> with_reducible rfl)); (try simp only [Act.put, List.setIfInBounds_toArray, List.set_cons_zero, List.set_cons_succ]))
  (refine Lw.take1 (i := 9) (v := ?_) rfl (by kernel_rfl) (by kernel_rfl) (by kernel_rfl) (fun _ _ _ h => h) (Or.inl ⟨by rfl, ?_⟩) (by assumption) ?_; rotate_left 1; (focus (intro wS hSw; obtain ⟨hS1, hS2, hS3, hS4⟩ := hSw; go_simp <;> with_reducible rfl)); (try simp only [Act.put, List.setIfInBounds_toArray, List.set_cons_zero, List.set_cons_succ]))
  (refine wpAnyH_ready (rs := [7]) (by kernel_rfl) (by simp) ?_; refine Lw.cons1 (i := 7) rfl (fun K hK => ?_) AllReadyH.nil; go_simp; refine hK.out _ _ ?_ (fun hHeld => ?_); (focus exact ⟨pb, m5, m6, trivial⟩); clear hK K; (try simp only [Act.put, List.setIfInBounds_toArray, List.set_cons_zero, List.set_cons_succ]))
  (refine Lw.take1 (i := 10) (v := ?_) rfl (by kernel_rfl) (by kernel_rfl) (by kernel_rfl) (fun _ _ _ h => h) (Or.inl ⟨by rfl, ?_⟩) (by assumption) ?_; rotate_left 1; (focus (intro wS hSw; obtain ⟨hS1, hS2, hS3, hS4⟩ := hSw; go_simp <;> with_reducible rfl)); (try simp only [Act.put, List.setIfInBounds_toArray, List.set_cons_zero, List.set_cons_succ]))
  (refine Lw.take1 (i := 11) (v := ?_) rfl (by kernel_rfl) (by kernel_rfl) (by kernel_rfl) (fun _ _ _ h => h) (Or.inl ⟨by rfl, ?_⟩) (by assumption) ?_; rotate_left 1; (focus (intro wS hSw; obtain ⟨hS1, hS2, hS3, hS4⟩ := hSw; go_simp <;> with_reducible rfl)); (try simp only [Act.put, List.setIfInBounds_toArray, List.set_cons_zero, List.set_cons_succ]))
  (refine wpAnyH_ready (rs := [12]) (by kernel_rfl) (by simp) ?_; refine Lw.cons1 (i := 12) rfl (fun K hK => ?_) AllReadyH.nil; go_simp; refine hK.out _ _ ?_ (fun hHeld => ?_); (focus exact KS.out _ (fun k hk => Below.heap_setCell _ _ _ _ (by exact hk))); clear hK K; (try simp only [Act.put, List.setIfInBounds_toArray, List.set_cons_zero, List.set_cons_succ]))
  refine wpAnyH_done (by kernel_rfl) ?_ _
  go_wp2
  go_end0
  have T1 : Lw.Tn g w W := Lw.Tn.of hBW
  exact ⟨rfl, (((T1.drew).set a _).block b hblt (by omega)).trans HB.out, by rw [NX.out]; exact Lw.own_set (Lw.ownsBelow OWN.out (Nat.le_refl _) hBW) ha2, g, rfl, (T1.drew).set a _⟩
end Go.Proofs.Ytkjcpjbdckbjcaa
namespace Lw
theorem wrongE_def (kn : Nat) (kd k l : Int) (A : Option Go.Addr) (n c : Nat) (zs : List Int) (lk at' tn : Int) : wrongE kn ⟨kd, k, l, A, n, c, zs, lk, at', tn⟩ = if kn = 0 then 7 else if 14 < n then 1 else if ¬ tn = 0 ∧ (lk < 0 ∨ (kn : Int) ≤ lk ∨ at' < 0 ∨ 17 ≤ at') then 3 else 0 := rfl
end Lw
set_option linter.unusedVariables false
set_option linter.unusedSimpArgs false
namespace Go.Proofs.Ytkjcpjbdckbjcaa
open Go.RowKit
set_option maxHeartbeats 1000000 in
theorem relay_wrong (h : Lw.Hp) (b : Nat) (KA : Option Addr) (kn kc : Nat) (w : World) (p5 : w.cell? ⟨b, 5, none⟩ = some (.slice KA kn kc)) :
    Calls Try.prog 34 #[.pointer (some ⟨b, 0, none⟩), .agg (HopC h)] w fun e w' => e = .returned (.int .i64 (Lw.wrongE kn h)) ∧ Below w.heap.size w w' := by
  obtain ⟨kd, k, l, A, n, c, zs, lk, at', tn⟩ := h
  have hlt := Lw.cell_lt p5
  simp only at hlt
  rcases (by omega : kn = 0 ∨ (¬ kn = 0 ∧ 14 < n) ∨ (¬ kn = 0 ∧ ¬ 14 < n ∧ tn = 0) ∨ (¬ kn = 0 ∧ ¬ 14 < n ∧ ¬ tn = 0 ∧ lk < 0) ∨ (¬ kn = 0 ∧ ¬ 14 < n ∧ ¬ tn = 0 ∧ ¬ lk < 0 ∧ (kn : Int) ≤ lk) ∨ (¬ kn = 0 ∧ ¬ 14 < n ∧ ¬ tn = 0 ∧ ¬ lk < 0 ∧ ¬ (kn : Int) ≤ lk ∧ at' < 0) ∨ (¬ kn = 0 ∧ ¬ 14 < n ∧ ¬ tn = 0 ∧ ¬ lk < 0 ∧ ¬ (kn : Int) ≤ lk ∧ ¬ at' < 0 ∧ 17 ≤ at') ∨ (¬ kn = 0 ∧ ¬ 14 < n ∧ ¬ tn = 0 ∧ ¬ lk < 0 ∧ ¬ (kn : Int) ≤ lk ∧ ¬ at' < 0 ∧ ¬ 17 ≤ at')) with rfl | ⟨h1, h2⟩ | ⟨h1, h2, rfl⟩ | ⟨h1, h2, h3, h4⟩ | ⟨h1, h2, h3, h4, h5⟩ | ⟨h1, h2, h3, h4, h5, h6⟩ | ⟨h1, h2, h3, h4, h5, h6, h7⟩ | ⟨h1, h2, h3, h4, h5, h6, h7⟩
  · have E2 : Hid (Lw.wrongE 0 ⟨kd, k, l, A, n, c, zs, lk, at', tn⟩ = 7) := by show _ = _; rw [Lw.wrongE_def]; simp
    go_enter Try.func34, Try.ntmps34
    go_wp2
    go_ret
    rw [E2.out]
    exact ⟨rfl, by (repeat (first | exact Below.refl _ _ | refine Lw.bt ?_ (by assumption) | refine Lw.balloc ?_ _ | refine Lw.bdrewN ?_ _ | refine Below.drew ?_ | refine Lw.bset ?_ (by first | (simp; done) | (simp; omega) | omega) _))⟩
  all_goals
    have z0 : ((kn : Int) == 0) = false := by simp; omega
  · have E2 : Hid (Lw.wrongE kn ⟨kd, k, l, A, n, c, zs, lk, at', tn⟩ = 1) := by show _ = _; rw [Lw.wrongE_def, if_neg h1, if_pos h2]
    have z1 : (14 : Int) < (n : Int) := by omega
    clear h1 h2
    go_enter Try.func34, Try.ntmps34
    go_wp2
    go_ret
    rw [E2.out]
    exact ⟨rfl, by (repeat (first | exact Below.refl _ _ | refine Lw.bt ?_ (by assumption) | refine Lw.balloc ?_ _ | refine Lw.bdrewN ?_ _ | refine Below.drew ?_ | refine Lw.bset ?_ (by first | (simp; done) | (simp; omega) | omega) _))⟩
  all_goals
    have z1 : ¬ (14 : Int) < (n : Int) := by omega
  · have E2 : Hid (Lw.wrongE kn ⟨kd, k, l, A, n, c, zs, lk, at', 0⟩ = 0) := by show _ = _; rw [Lw.wrongE_def, if_neg h1, if_neg h2, if_neg (by simp)]
    clear h1 h2
    go_enter Try.func34, Try.ntmps34
    go_wp2
    go_ret
    rw [E2.out]
    exact ⟨rfl, by (repeat (first | exact Below.refl _ _ | refine Lw.bt ?_ (by assumption) | refine Lw.balloc ?_ _ | refine Lw.bdrewN ?_ _ | refine Below.drew ?_ | refine Lw.bset ?_ (by first | (simp; done) | (simp; omega) | omega) _))⟩
  all_goals
    have z2 : (tn != 0) = true := by simpa using h3
  · have E2 : Hid (Lw.wrongE kn ⟨kd, k, l, A, n, c, zs, lk, at', tn⟩ = 3) := by show _ = _; rw [Lw.wrongE_def, if_neg h1, if_neg h2, if_pos ⟨h3, by omega⟩]
    clear h1 h2 h3
    go_enter Try.func34, Try.ntmps34
    go_wp2
    go_ret
    rw [E2.out]
    exact ⟨rfl, by (repeat (first | exact Below.refl _ _ | refine Lw.bt ?_ (by assumption) | refine Lw.balloc ?_ _ | refine Lw.bdrewN ?_ _ | refine Below.drew ?_ | refine Lw.bset ?_ (by first | (simp; done) | (simp; omega) | omega) _))⟩
  · have E2 : Hid (Lw.wrongE kn ⟨kd, k, l, A, n, c, zs, lk, at', tn⟩ = 3) := by show _ = _; rw [Lw.wrongE_def, if_neg h1, if_neg h2, if_pos ⟨h3, by omega⟩]
    clear h1 h2 h3
    go_enter Try.func34, Try.ntmps34
    go_wp2
    go_ret
    rw [E2.out]
    exact ⟨rfl, by (repeat (first | exact Below.refl _ _ | refine Lw.bt ?_ (by assumption) | refine Lw.balloc ?_ _ | refine Lw.bdrewN ?_ _ | refine Below.drew ?_ | refine Lw.bset ?_ (by first | (simp; done) | (simp; omega) | omega) _))⟩
  · have E2 : Hid (Lw.wrongE kn ⟨kd, k, l, A, n, c, zs, lk, at', tn⟩ = 3) := by show _ = _; rw [Lw.wrongE_def, if_neg h1, if_neg h2, if_pos ⟨h3, by omega⟩]
    clear h1 h2 h3
    go_enter Try.func34, Try.ntmps34
    go_wp2
    go_ret
    rw [E2.out]
    exact ⟨rfl, by (repeat (first | exact Below.refl _ _ | refine Lw.bt ?_ (by assumption) | refine Lw.balloc ?_ _ | refine Lw.bdrewN ?_ _ | refine Below.drew ?_ | refine Lw.bset ?_ (by first | (simp; done) | (simp; omega) | omega) _))⟩
  · have E2 : Hid (Lw.wrongE kn ⟨kd, k, l, A, n, c, zs, lk, at', tn⟩ = 3) := by show _ = _; rw [Lw.wrongE_def, if_neg h1, if_neg h2, if_pos ⟨h3, by omega⟩]
    clear h1 h2 h3
    go_enter Try.func34, Try.ntmps34
    go_wp2
    go_ret
    rw [E2.out]
    exact ⟨rfl, by (repeat (first | exact Below.refl _ _ | refine Lw.bt ?_ (by assumption) | refine Lw.balloc ?_ _ | refine Lw.bdrewN ?_ _ | refine Below.drew ?_ | refine Lw.bset ?_ (by first | (simp; done) | (simp; omega) | omega) _))⟩
  · have E2 : Hid (Lw.wrongE kn ⟨kd, k, l, A, n, c, zs, lk, at', tn⟩ = 0) := by show _ = _; rw [Lw.wrongE_def, if_neg h1, if_neg h2, if_neg (by omega)]
    clear h1 h2 h3
    go_enter Try.func34, Try.ntmps34
    go_wp2
    go_ret
    rw [E2.out]
    exact ⟨rfl, by (repeat (first | exact Below.refl _ _ | refine Lw.bt ?_ (by assumption) | refine Lw.balloc ?_ _ | refine Lw.bdrewN ?_ _ | refine Below.drew ?_ | refine Lw.bset ?_ (by first | (simp; done) | (simp; omega) | omega) _))⟩
end Go.Proofs.Ytkjcpjbdckbjcaa

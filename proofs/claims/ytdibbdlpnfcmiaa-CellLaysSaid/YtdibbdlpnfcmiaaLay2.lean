/- The reference's Layer. -/
import Derived.Test.YtdibbdlpnfcmiaaLay
namespace Lw
open Go Go.RowKit
theorem layL_take {key count : Int} {bs : List Int} {k : Nat} (h : k < bs.length) : intsV .u8 ((layL key count bs).take (k + 1)) = intsV .u8 ((layL key count bs).take k) ++ [.int .u8 (xorI bs[k] (layB key count k))] := by
  rw [List.take_succ_eq_append_getElem (by rw [layL_length]; exact h), layL_get h, intsV_app]; rfl
end Lw
set_option linter.unusedVariables false
set_option linter.unusedSimpArgs false
namespace Go.Proofs.Ytdibbdlpnfcmiaa
open Go.RowKit
set_option maxHeartbeats 4000000 in
theorem ref_Layer (key count : Int) (A : Option Addr) (c : Nat) (bs : List Int) (w : World) (R : Lw.Rd w 1 A 17 (Lw.intsV .u8 bs)) (hy : Lw.Byt bs) (k1 : 0 ≤ key) (k2 : key < 65536) (c1 : 0 ≤ count) (c2 : count ≤ 2147483648) :
    Calls Try.prog 26 #[.int .i64 key, .int .i64 count, .slice A 17 c] w (Lw.OwnRes 5 1 (Lw.intsV .u8 (Lw.layL key count bs)) 17 w) := by
  have R := Lib.hid R
  have l1 : bs.length = 17 := by have := R.out.1; simpa [Lw.intsV] using this
  have L := Lib.hid l1
  clear l1
  go_enter Try.func26, Try.ntmps26
  go_wp2
  go_loopw [7, 8] (fun l i wr => ∃ k : Nat, i = .int .i64 (k : Int) ∧ k ≤ 17 ∧ wr.ownsRow w.heap.size 5 1 l k (Lw.intsV .u8 ((Lw.layL key count bs).take k)) ∧ Below w.heap.size w wr) (fun _ i _ => 17 - (intOf i).toNat)
  case atStart => exact ⟨0, rfl, by omega, World.ownsRow_nil _ _ _ _, Below.refl _ _⟩
  case round =>
    obtain ⟨k, rfl, kk, own, hB⟩ := hrel
    have hsz := hB.size
    have OWN := Lib.hid own
    clear own
    by_cases hlt : k < 17
    · have hl : k < bs.length := by rw [L.out]; exact hlt
      have NX := Lib.hid (Lw.layL_take (key := key) (count := count) hl)
      obtain ⟨ad, rfl, had, hcell⟩ := R.out.at1 hlt (Lw.intsV_get hl)
      have hadk : (ad.add k).block < w.heap.size := by rw [Lw.add_block]; exact had
      obtain ⟨ob1, ob2⟩ := hy _ (List.getElem_mem hl)
      have HX : Hid (Lw.layB key count k = Lw.hsum (Lw.namedL key count ++ [(k : Int), 3]) % 256) := rfl
      have C := fun (A : Option Addr) (c : Nat) (w : World) R => ref_Sum A (6 + 2) c (Lw.namedL key count ++ [(k : Int), 3]) w R ((Lw.namedL_byt _ _).app (by intro z hz; simp at hz; omega)) (by omega)
      rw [Lw.intsV_app] at C
      have C := Lib.hid C
      obtain ⟨s1, s2⟩ := Lw.hsum_bd (Lw.namedL key count ++ [(k : Int), 3])
      rw [HX.out] at NX
      clear HX
      generalize Lw.hsum (Lw.namedL key count ++ [(k : Int), 3]) = s at *
      obtain ⟨old, hold⟩ : ∃ z, bs[k] = z := ⟨_, rfl⟩
      rw [hold] at hcell ob1 ob2 NX
      clear hold
      have nb := Lw.xorI_byte (b := s % 256) ob1 ob2 (by omega) (by omega)
      have MX := fun (w : World) => ref_mixed old (s % 256) w ob1 (by omega) (by omega) (by omega)
      obtain ⟨new, hnew⟩ : ∃ z, Lw.xorI old (s % 256) = z := ⟨_, rfl⟩
      rw [hnew] at MX NX nb
      obtain ⟨nb1, nb2⟩ := nb
      have MX := Lib.hid MX
      clear hnew
      have i0 : (0 : Int) ≤ (k : Int) := by omega
      have i1 : (k : Int) < 17 := by omega
      have kw : IntKind.u8.wrap (k : Int) = k := by rw [IntKind.wrap_u8]; omega
      have sw : IntKind.u8.wrap new = new := by rw [IntKind.wrap_u8]; omega
      have rw1 : s.tmod 256 = s % 256 := Int.tmod_eq_emod_of_nonneg s1
      have ow : IntKind.i64.wrap old = old := IntWalk.i64_in _ (by omega)
      have ow := Lib.hid ow
      have kw := Lib.hid kw
      have sw := Lib.hid sw
      have rw1 := Lib.hid rw1
      go_wp2
      have kw1 := kw.out
      have ow1 := ow.out
      have sw1 := sw.out
      have rw2 := rw1.out
      refine wp_region_held_drew (S := Lw.Sm w) (by kernel_rfl) (Lw.sm_of (Below.drew hB)) (fun hHeld => ?_)
      (refine Lw.take1 (i := 0) (v := ?_) rfl (by kernel_rfl) (by kernel_rfl) (by kernel_rfl) (fun _ _ _ h => h) (Or.inl ⟨by rfl, ?_⟩) (by assumption) ?_; rotate_left 1; (focus (intro wS hSw; obtain ⟨hS1, hS2, hS3, hS4⟩ := hSw; go_simp <;> with_reducible rfl)); (try simp only [Act.put, List.setIfInBounds_toArray, List.set_cons_zero, List.set_cons_succ]))
      (refine Lw.take1 (i := 1) (v := ?_) rfl (by kernel_rfl) (by kernel_rfl) (by kernel_rfl) (fun _ _ _ h => h) (Or.inl ⟨by rfl, ?_⟩) (by assumption) ?_; rotate_left 1; (focus (intro wS hSw; obtain ⟨hS1, hS2, hS3, hS4⟩ := hSw; go_simp <;> with_reducible rfl)); (try simp only [Act.put, List.setIfInBounds_toArray, List.set_cons_zero, List.set_cons_succ]))
      (refine Lw.take1 (i := 2) (v := ?_) rfl (by kernel_rfl) (by kernel_rfl) (by kernel_rfl) (fun _ _ _ h => h) (Or.inl ⟨by rfl, ?_⟩) (by assumption) ?_; rotate_left 1; (focus (intro wS hSw; obtain ⟨hS1, hS2, hS3, hS4⟩ := hSw; go_simp <;> with_reducible rfl)); (try simp only [Act.put, List.setIfInBounds_toArray, List.set_cons_zero, List.set_cons_succ]))
      (refine Lw.take1 (i := 3) (v := ?_) rfl (by kernel_rfl) (by kernel_rfl) (by kernel_rfl) (fun _ _ _ h => h) (Or.inl ⟨by rfl, ?_⟩) (by assumption) ?_; rotate_left 1; (focus (intro wS hSw; obtain ⟨hS1, hS2, hS3, hS4⟩ := hSw; go_simp <;> with_reducible rfl)); (try simp only [Act.put, List.setIfInBounds_toArray, List.set_cons_zero, List.set_cons_succ]))
      (refine Lw.take1 (i := 4) (v := ?_) rfl (by kernel_rfl) (by kernel_rfl) (by kernel_rfl) (fun _ _ _ h => h) (Or.inl ⟨by rfl, ?_⟩) (by assumption) ?_; rotate_left 1; (focus (intro wS hSw; obtain ⟨hS1, hS2, hS3, hS4⟩ := hSw; go_simp <;> with_reducible rfl)); (try simp only [Act.put, List.setIfInBounds_toArray, List.set_cons_zero, List.set_cons_succ]))
      (refine Lw.take1 (i := 5) (v := ?_) rfl (by kernel_rfl) (by kernel_rfl) (by kernel_rfl) (fun _ _ _ h => h) (Or.inl ⟨by rfl, ?_⟩) (by assumption) ?_; rotate_left 1; (focus (intro wS hSw; obtain ⟨hS1, hS2, hS3, hS4⟩ := hSw; go_simp <;> with_reducible rfl)); (try simp only [Act.put, List.setIfInBounds_toArray, List.set_cons_zero, List.set_cons_succ]))
      (refine Lw.take1 (i := 6) (v := ?_) rfl (by kernel_rfl) (by kernel_rfl) (by kernel_rfl) (fun _ _ _ h => h) (Or.inl ⟨by rfl, ?_⟩) (by assumption) ?_; rotate_left 1; (focus (intro wS hSw; obtain ⟨hS1, hS2, hS3, hS4⟩ := hSw; go_simp <;> with_reducible rfl)); (try simp only [Act.put, List.setIfInBounds_toArray, List.set_cons_zero, List.set_cons_succ]))
      (refine Lw.take1 (i := 7) (v := ?_) rfl (by kernel_rfl) (by kernel_rfl) (by kernel_rfl) (fun _ _ _ h => h) (Or.inl ⟨by rfl, ?_⟩) (by assumption) ?_; rotate_left 1; (focus (intro wS hSw; obtain ⟨hS1, hS2, hS3, hS4⟩ := hSw; go_simp <;> with_reducible rfl)); (try simp only [Act.put, List.setIfInBounds_toArray, List.set_cons_zero, List.set_cons_succ]))
      (refine Lw.take1 (i := 9) (v := ?_) rfl (by kernel_rfl) (by kernel_rfl) (by kernel_rfl) (fun _ _ _ h => h) (Or.inl ⟨by rfl, ?_⟩) (by assumption) ?_; rotate_left 1; (focus (intro wS hSw; obtain ⟨hS1, hS2, hS3, hS4⟩ := hSw; go_simp <;> with_reducible rfl)); (try simp only [Act.put, List.setIfInBounds_toArray, List.set_cons_zero, List.set_cons_succ]))
      (refine Lw.take1 (i := 10) (v := ?_) rfl (by kernel_rfl) (by kernel_rfl) (by kernel_rfl) (fun _ _ _ h => h) (Or.inl ⟨by rfl, ?_⟩) (by assumption) ?_; rotate_left 1; (focus (intro wS hSw; obtain ⟨hS1, hS2, hS3, hS4⟩ := hSw; go_simp <;> with_reducible rfl)); (try simp only [Act.put, List.setIfInBounds_toArray, List.set_cons_zero, List.set_cons_succ]))
      refine wpAnyH_ready (rs := [8, 11]) (by kernel_rfl) (by simp) ?_
      refine Lw.cons1 (i := 8) rfl (fun K hK => ?_) ?_
      · skip
        go_simp
        go_at_call 51
        (with_reducible refine (ref_named key count _ k1 (by omega) c1 (by omega)).mono ?_); rintro e w3 ⟨A3, d3, rfl, own3, hb3⟩
        have hB3 : Below w.heap.size w w3 := Lw.bt (Below.drew hB) hb3
        have hb3w : Below wr.heap.size wr w3 := Lw.bt (Below.drew (Below.refl _ _)) hb3
        refine hK.out _ _ (Lw.sm_of hB3) (fun hHeld => ?_)
        clear hK K
        (try simp only [Act.put, List.setIfInBounds_toArray, List.set_cons_zero, List.set_cons_succ])
        (refine wpAnyH_ready (rs := [11]) (by kernel_rfl) (by simp) ?_; refine Lw.cons1 (i := 11) rfl (fun K hK => ?_) AllReadyH.nil; go_simp; refine hK.out _ _ ?_ (fun hHeld => ?_); (focus exact Lw.sm_of (Lw.balloc hB3 _)); clear hK K; (try simp only [Act.put, List.setIfInBounds_toArray, List.set_cons_zero, List.set_cons_succ]))
        (refine wpAnyH_ready (rs := [12]) (by kernel_rfl) (by simp) ?_; refine Lw.cons1 (i := 12) rfl (fun K hK => ?_) AllReadyH.nil; refine Lw.step_app elByte rfl _ _ rfl rfl (own3.alloc _) rfl (by exact Lw.Rd.lit (Lw.blk_new _ _ _) rfl (by rfl)) (Lw.intsV_one .u8 [(k : Int), 3]) (by omega) (Lw.balloc hb3w _) (Nat.le_refl _) (by have := hb3w.size; simp; omega) ?_; intro v4 w4 own4 hb4 _ _; refine hK.out _ _ ?_ (fun hHeld => ?_); (focus exact Lw.sm_of (Lw.bt hB hb4)); clear hK K; (try simp only [Act.put, List.setIfInBounds_toArray, List.set_cons_zero, List.set_cons_succ]))
        obtain ⟨A4, d4, rfl, _⟩ := Lw.ownsForm own4
        have hS4 : Lw.Sm w w4 := Lw.sm_of (Lw.bt hB hb4)
        (refine wpAnyH_ready (rs := [13]) (by kernel_rfl) (by simp) ?_; refine Lw.cons1 (i := 13) rfl (fun K hK => ?_) AllReadyH.nil; go_simp; go_at_call 14; (with_reducible refine (C.out _ _ _ (Lw.Rd.of_own own4)).mono ?_); rintro e w5 ⟨rfl, hb5⟩; refine hK.out _ _ ?_ (fun hHeld => ?_); (focus exact Lw.sm_keep hS4 hb5); clear hK K; (try simp only [Act.put, List.setIfInBounds_toArray, List.set_cons_zero, List.set_cons_succ]))
        have hS5 := Lw.sm_keep hS4 hb5
        have hb45 := Lw.bt hb4 hb5
        (refine Lw.take1 (i := 14) (v := ?_) rfl (by kernel_rfl) (by kernel_rfl) (by kernel_rfl) (fun _ _ _ h => h) (Or.inl ⟨by rfl, ?_⟩) (by assumption) ?_; rotate_left 1; (focus (intro wS hSw; obtain ⟨hS1, hS2, hS3, hS4⟩ := hSw; go_simp <;> with_reducible rfl)); (try simp only [Act.put, List.setIfInBounds_toArray, List.set_cons_zero, List.set_cons_succ]))
        (refine wpAnyH_ready (rs := [15]) (by kernel_rfl) (by simp) ?_; refine Lw.cons1 (i := 15) rfl (fun K hK => ?_) AllReadyH.nil; go_simp; go_at_call 58; (with_reducible refine (MX.out _).mono ?_); rintro e wx ⟨rfl, rfl⟩; refine hK.out _ _ ?_ (fun hHeld => ?_); (focus exact hS5); clear hK K; (try simp only [Act.put, List.setIfInBounds_toArray, List.set_cons_zero, List.set_cons_succ]))
        (refine Lw.take1 (i := 16) (v := ?_) rfl (by kernel_rfl) (by kernel_rfl) (by kernel_rfl) (fun _ _ _ h => h) (Or.inl ⟨by rfl, ?_⟩) (by assumption) ?_; rotate_left 1; (focus (intro wS hSw; obtain ⟨hS1, hS2, hS3, hS4⟩ := hSw; go_simp <;> with_reducible rfl)); (try simp only [Act.put, List.setIfInBounds_toArray, List.set_cons_zero, List.set_cons_succ]))
        (refine wpAnyH_ready (rs := [17]) (by kernel_rfl) (by simp) ?_; refine Lw.cons1 (i := 17) rfl (fun K hK => ?_) AllReadyH.nil; go_simp; refine hK.out _ _ ?_ (fun hHeld => ?_); (focus exact Lw.sm_of (Lw.balloc (Lw.sm_bel hS5) _)); clear hK K; (try simp only [Act.put, List.setIfInBounds_toArray, List.set_cons_zero, List.set_cons_succ]))
        (refine wpAnyH_ready (rs := [18]) (by kernel_rfl) (by simp) ?_; refine Lw.cons1 (i := 18) rfl (fun K hK => ?_) AllReadyH.nil; refine Lw.step_app elByte rfl _ _ rfl rfl ((Lw.ownsBelow OWN.out (Nat.le_refl _) hb45).alloc _) rfl (by exact Lw.Rd.lit (Lw.blk_new _ _ _) rfl rfl) (Lw.one1 _ _) (by omega) (Lw.balloc (Lw.sm_bel hS5) _) (Nat.le_refl _) (by have := (Lw.sm_bel hS5).size; simp; omega) ?_; intro v6 w6 own6 hb6 hg6 _; refine hK.out _ _ ?_ (fun hHeld => ?_); (focus exact Lw.sm_of hb6); clear hK K; (try simp only [Act.put, List.setIfInBounds_toArray, List.set_cons_zero, List.set_cons_succ]))
        (refine Lw.take1 (i := 19) (v := ?_) rfl (by kernel_rfl) (by kernel_rfl) (by kernel_rfl) (fun _ _ _ h => h) (Or.inl ⟨by rfl, ?_⟩) (by assumption) ?_; rotate_left 1; (focus (intro wS hSw; obtain ⟨hS1, hS2, hS3, hS4⟩ := hSw; go_simp <;> with_reducible rfl)); (try simp only [Act.put, List.setIfInBounds_toArray, List.set_cons_zero, List.set_cons_succ]))
        refine wpAnyH_done (by kernel_rfl) ?_ _
        go_wp2
        go_roundw
        case rel =>
          obtain ⟨A6, d6, rfl, _⟩ := Lw.ownsForm own6
          exact ⟨k + 1, by go_num, by omega, by rw [NX.out]; exact own6, hb6⟩
        case measure => simp [intOf]; omega
      · skip
        refine Lw.cons1 (i := 11) rfl (fun K hK => ?_) AllReadyH.nil
        go_simp
        refine hK.out _ _ (Lw.sm_of (Below.drew (Lw.balloc hB _))) (fun hHeld => ?_)
        clear hK K
        (try simp only [Act.put, List.setIfInBounds_toArray, List.set_cons_zero, List.set_cons_succ])
        (refine wpAnyH_ready (rs := [8]) (by kernel_rfl) (by simp) ?_; refine Lw.cons1 (i := 8) rfl (fun K hK => ?_) AllReadyH.nil; go_simp; go_at_call 51; (with_reducible refine (ref_named key count _ k1 (by omega) c1 (by omega)).mono ?_); rintro e w3 ⟨A3, d3, rfl, own3, hb3⟩; refine hK.out _ _ ?_ (fun hHeld => ?_); (focus exact Lw.sm_of (Lw.bt (Below.drew (Lw.balloc hB _)) hb3)); clear hK K; (try simp only [Act.put, List.setIfInBounds_toArray, List.set_cons_zero, List.set_cons_succ]))
        have hb3w : Below wr.heap.size wr w3 := Lw.bt (Below.drew (Lw.balloc (Below.refl _ _) _)) hb3
        (refine wpAnyH_ready (rs := [12]) (by kernel_rfl) (by simp) ?_; refine Lw.cons1 (i := 12) rfl (fun K hK => ?_) AllReadyH.nil; refine Lw.step_app elByte rfl _ _ rfl rfl own3 rfl (by exact Lw.Rd.lit ((hb3.block wr.heap.size (by simp)).trans (Lw.blk_drew (Lw.blk_new _ _ _))) rfl (by rfl)) (Lw.intsV_one .u8 [(k : Int), 3]) (by omega) hb3w (by simp) hb3.size ?_; intro v4 w4 own4 hb4 _ _; refine hK.out _ _ ?_ (fun hHeld => ?_); (focus exact Lw.sm_of (Lw.bt hB hb4)); clear hK K; (try simp only [Act.put, List.setIfInBounds_toArray, List.set_cons_zero, List.set_cons_succ]))
        obtain ⟨A4, d4, rfl, _⟩ := Lw.ownsForm own4
        have hS4 : Lw.Sm w w4 := Lw.sm_of (Lw.bt hB hb4)
        (refine wpAnyH_ready (rs := [13]) (by kernel_rfl) (by simp) ?_; refine Lw.cons1 (i := 13) rfl (fun K hK => ?_) AllReadyH.nil; go_simp; go_at_call 14; (with_reducible refine (C.out _ _ _ (Lw.Rd.of_own own4)).mono ?_); rintro e w5 ⟨rfl, hb5⟩; refine hK.out _ _ ?_ (fun hHeld => ?_); (focus exact Lw.sm_keep hS4 hb5); clear hK K; (try simp only [Act.put, List.setIfInBounds_toArray, List.set_cons_zero, List.set_cons_succ]))
        have hS5 := Lw.sm_keep hS4 hb5
        have hb45 := Lw.bt hb4 hb5
        (refine Lw.take1 (i := 14) (v := ?_) rfl (by kernel_rfl) (by kernel_rfl) (by kernel_rfl) (fun _ _ _ h => h) (Or.inl ⟨by rfl, ?_⟩) (by assumption) ?_; rotate_left 1; (focus (intro wS hSw; obtain ⟨hS1, hS2, hS3, hS4⟩ := hSw; go_simp <;> with_reducible rfl)); (try simp only [Act.put, List.setIfInBounds_toArray, List.set_cons_zero, List.set_cons_succ]))
        (refine wpAnyH_ready (rs := [15]) (by kernel_rfl) (by simp) ?_; refine Lw.cons1 (i := 15) rfl (fun K hK => ?_) AllReadyH.nil; go_simp; go_at_call 58; (with_reducible refine (MX.out _).mono ?_); rintro e wx ⟨rfl, rfl⟩; refine hK.out _ _ ?_ (fun hHeld => ?_); (focus exact hS5); clear hK K; (try simp only [Act.put, List.setIfInBounds_toArray, List.set_cons_zero, List.set_cons_succ]))
        (refine Lw.take1 (i := 16) (v := ?_) rfl (by kernel_rfl) (by kernel_rfl) (by kernel_rfl) (fun _ _ _ h => h) (Or.inl ⟨by rfl, ?_⟩) (by assumption) ?_; rotate_left 1; (focus (intro wS hSw; obtain ⟨hS1, hS2, hS3, hS4⟩ := hSw; go_simp <;> with_reducible rfl)); (try simp only [Act.put, List.setIfInBounds_toArray, List.set_cons_zero, List.set_cons_succ]))
        (refine wpAnyH_ready (rs := [17]) (by kernel_rfl) (by simp) ?_; refine Lw.cons1 (i := 17) rfl (fun K hK => ?_) AllReadyH.nil; go_simp; refine hK.out _ _ ?_ (fun hHeld => ?_); (focus exact Lw.sm_of (Lw.balloc (Lw.sm_bel hS5) _)); clear hK K; (try simp only [Act.put, List.setIfInBounds_toArray, List.set_cons_zero, List.set_cons_succ]))
        (refine wpAnyH_ready (rs := [18]) (by kernel_rfl) (by simp) ?_; refine Lw.cons1 (i := 18) rfl (fun K hK => ?_) AllReadyH.nil; refine Lw.step_app elByte rfl _ _ rfl rfl ((Lw.ownsBelow OWN.out (Nat.le_refl _) hb45).alloc _) rfl (by exact Lw.Rd.lit (Lw.blk_new _ _ _) rfl rfl) (Lw.one1 _ _) (by omega) (Lw.balloc (Lw.sm_bel hS5) _) (Nat.le_refl _) (by have := (Lw.sm_bel hS5).size; simp; omega) ?_; intro v6 w6 own6 hb6 hg6 _; refine hK.out _ _ ?_ (fun hHeld => ?_); (focus exact Lw.sm_of hb6); clear hK K; (try simp only [Act.put, List.setIfInBounds_toArray, List.set_cons_zero, List.set_cons_succ]))
        (refine Lw.take1 (i := 19) (v := ?_) rfl (by kernel_rfl) (by kernel_rfl) (by kernel_rfl) (fun _ _ _ h => h) (Or.inl ⟨by rfl, ?_⟩) (by assumption) ?_; rotate_left 1; (focus (intro wS hSw; obtain ⟨hS1, hS2, hS3, hS4⟩ := hSw; go_simp <;> with_reducible rfl)); (try simp only [Act.put, List.setIfInBounds_toArray, List.set_cons_zero, List.set_cons_succ]))
        refine wpAnyH_done (by kernel_rfl) ?_ _
        go_wp2
        go_roundw
        case rel =>
          obtain ⟨A6, d6, rfl, _⟩ := Lw.ownsForm own6
          exact ⟨k + 1, by go_num, by omega, by rw [NX.out]; exact own6, hb6⟩
        case measure => simp [intOf]; omega
    · have hk : k = 17 := by omega
      subst hk
      have E : Hid ((Lw.layL key count bs).take 17 = Lw.layL key count bs) := List.take_of_length_le (by rw [Lw.layL_length, L.out]; omega)
      have O := OWN.out
      rw [E.out] at O
      have O := Lib.hid O
      clear OWN
      go_wp2
      go_ret
      obtain ⟨A6, d6, rfl, _⟩ := Lw.ownsForm O.out
      exact ⟨A6, d6, rfl, O.out, hB⟩
end Go.Proofs.Ytdibbdlpnfcmiaa

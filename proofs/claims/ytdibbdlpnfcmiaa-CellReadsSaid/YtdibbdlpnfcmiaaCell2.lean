/- The reference's Cell. -/
import Derived.Test.YtdibbdlpnfcmiaaCell
namespace Lw
open Go Go.RowKit
theorem cellH_part {bs : List Int} {n m : Nat} (hl : bs.length = n) : ((n : Int) :: (bs ++ List.replicate (m - (n + 1)) 0)) ++ [0] = (n : Int) :: (bs ++ List.replicate (m + 1 - (n + 1)) 0) ∨ m < n + 1 := by
  by_cases h : m < n + 1
  · exact .inr h
  · left
    rw [show m + 1 - (n + 1) = (m - (n + 1)) + 1 by omega, List.replicate_succ']
    simp
end Lw
set_option linter.unusedVariables false
set_option linter.unusedSimpArgs false
namespace Go.Proofs.Ytdibbdlpnfcmiaa
open Go.RowKit
set_option maxHeartbeats 2000000 in
theorem ref_Cell (key count : Int) (A : Option Addr) (n c : Nat) (bs : List Int) (w : World) (R : Lw.Rd w 1 A n (Lw.intsV .u8 bs)) (hy : Lw.Byt bs) (hn : n ≤ 14) (k1 : 0 ≤ key) (k2 : key < 65536) (c1 : 0 ≤ count) (c2 : count ≤ 2147483648) :
    Calls Try.prog 22 #[.int .i64 key, .int .i64 count, .slice A n c] w (Lw.OwnRes 5 1 (Lw.intsV .u8 (Lw.cellL key count bs)) 17 w) := by
  have R := Lib.hid R
  have l1 : bs.length = n := by have := R.out.1; simpa [Lw.intsV] using this
  have L := Lib.hid l1
  have hy2 := Lw.cellH_byt (by rw [l1]; exact hn) hy
  have E : Hid (Lw.intsV .u8 (Lw.cellL key count bs) = Lw.intsV .u8 (Lw.cellH bs) ++ Lw.intsV .u8 (Lw.sumL key count (Lw.cellH bs))) := Lw.intsV_app _ _ _
  have E2 : Hid (Lw.sumL key count (Lw.cellH bs) = Lw.littleL (Lw.hsum (Lw.namedL key count ++ Lw.cellH bs)) 2) := rfl
  have E3 : Hid (Lw.cellH bs = (n : Int) :: (bs ++ List.replicate (15 - (n + 1)) 0)) := by show _ = _; rw [← l1]; unfold Lw.cellH; rw [show 15 - (bs.length + 1) = 14 - bs.length by omega]
  have C := fun (A : Option Addr) (c : Nat) (w : World) R => ref_Sum A (6 + 15) c (Lw.namedL key count ++ Lw.cellH bs) w R ((Lw.namedL_byt _ _).app hy2) (by omega)
  rw [Lw.intsV_app] at C
  obtain ⟨s1, s2⟩ := Lw.hsum_bd (Lw.namedL key count ++ Lw.cellH bs)
  have C := Lib.hid C
  generalize Lw.hsum (Lw.namedL key count ++ Lw.cellH bs) = s at *
  clear l1
  go_enter Try.func22, Try.ntmps22
  go_wp2_with (at_builtin; refine Lw.wpList_app elByte rfl _ _ rfl rfl (Lw.own_lit w (xs := [.int .u8 (n : Int)]) rfl rfl (by decide) (Nat.le_refl _)) rfl (R.out.alloc _) (Lw.intsV_one _ _) (by omega) (Lw.balloc (Below.refl _ _) _) (Nat.le_refl _) (by simp) ?_; intro v1 w1 own1 hb1 _ _)
  go_loopw [7] (fun b wr => ∃ (A' : Option Addr) (m c' : Nat), b = .slice A' m c' ∧ n + 1 ≤ m ∧ m ≤ 15 ∧ wr.ownsRow w.heap.size 5 1 b m (Lw.intsV .u8 ((n : Int) :: (bs ++ List.replicate (m - (n + 1)) 0))) ∧ Below w.heap.size w wr) (fun b _ => match b with | .slice _ m _ => 15 - m | _ => 0)
  case atStart =>
    obtain ⟨A1, d1, rfl, _⟩ := Lw.ownsForm own1
    exact ⟨A1, 1 + n, d1, rfl, by omega, by omega, by rw [show 1 + n - (n + 1) = 0 by omega]; simpa [Lw.intsV] using own1, hb1⟩
  case round =>
    clear own1 hb1
    obtain ⟨A', m, c', rfl, m1, m2, own, hB⟩ := hrel
    have OWN := Lib.hid own
    clear own
    have hsz := hB.size
    by_cases hlt : m < 15
    · have T : Hid (Lw.intsV .u8 ((n : Int) :: (bs ++ List.replicate (m - (n + 1)) 0)) ++ [.int .u8 0] = Lw.intsV .u8 ((n : Int) :: (bs ++ List.replicate (m + 1 - (n + 1)) 0))) := by
        rcases Lw.cellH_part (m := m) L.out with h | h
        · show _ = _; rw [← h, Lw.intsV_app]; rfl
        · omega
      go_wp2_with (at_builtin; refine Lw.wpList_app elByte rfl _ _ rfl rfl (OWN.out.alloc _) rfl (by first | exact Lw.Rd.nil _ _ _ | exact Lw.Rd.lit (Lw.blk_new' (by simp) _ _) rfl rfl | exact Lw.Rd.lit (Lw.blk_alloc (Lw.blk_new' (by simp) _ _) _) rfl rfl) (Lw.one1 _ _) (by omega) (Lw.balloc hB _) (Nat.le_refl _) (by simp; omega) ?_; intro v2 w2 own2 hb2 _ _)
      obtain ⟨A2, d2, rfl, _⟩ := Lw.ownsForm own2
      have O2 := Lib.hid own2
      clear own2
      go_wp2
      go_roundw
      case rel => exact ⟨A2, m + 1, d2, rfl, by omega, by omega, by rw [← T.out]; exact O2.out, hb2⟩
      case measure => simp; omega
    · have hm : m = 15 := by omega
      subst hm
      have O := OWN.out
      rw [← E3.out] at O
      have O := Lib.hid O
      clear OWN
      go_wp2_with fail
      refine (ref_named key count _ k1 (by omega) c1 (by omega)).mono ?_
      rintro e w3 ⟨A3, d3, rfl, own3, hb3⟩
      go_wp2_with (at_builtin; refine Lw.wpList_app elByte rfl (.tmp 24) (.tmp 25) rfl rfl own3 rfl (Lw.Rd.of_own (Lw.ownsBelow O.out (Nat.le_refl _) hb3)) (Lw.intsV_one _ _) (by omega) hb3 (Nat.le_refl _) hb3.size ?_; intro v4 w4 own4 hb4 _ _)
      obtain ⟨A4, d4, rfl, _⟩ := Lw.ownsForm own4
      refine (C.out _ _ _ (Lw.Rd.of_own own4)).mono ?_
      rintro e w5 ⟨rfl, hb5⟩
      go_wp2_with fail
      refine (ref_little s 2 _ s1 (by omega) (by omega)).mono ?_
      rintro e w6 ⟨A6, d6, rfl, own6, hb6⟩
      have hb36 := Lw.bt (Lw.bt hb4 hb5) hb6
      go_wp2_with (at_builtin; refine Lw.wpList_app elByte rfl (.tmp 21) (.tmp 28) rfl rfl (Lw.ownsBelow O.out (Nat.le_refl _) hb36) rfl (Lw.Rd.of_own own6) (Lw.intsV_one _ _) (by omega) (Lw.bt hB hb36) (Nat.le_refl _) (by have := hb36.size; omega) ?_; intro v7 w7 own7 hb7 _ _)
      go_ret
      obtain ⟨A7, d7, rfl, _⟩ := Lw.ownsForm own7
      rw [E.out, E2.out]
      exact ⟨A7, d7, by simp, by simpa using own7, hb7⟩
end Go.Proofs.Ytdibbdlpnfcmiaa

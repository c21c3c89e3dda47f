/- The keys of package ratchet: what a key becomes, by the program and by the reference. -/
import Derived.Test.YtlgegdmnbhoepaaBytes2
namespace Lw
open Go Go.RowKit
/-- what a key becomes: 1: the message key, 2: the next key -/
def keyPart (k b : Int) : Int := hsum (littleL k 2 ++ [b])
theorem keyPart_bd (k b : Int) : 0 ≤ keyPart k b ∧ keyPart k b < 65536 := hsum_bd _
theorem keyPart_byt {k b : Int} (h0 : 0 ≤ b) (h1 : b < 256) : Byt (littleL k 2 ++ [b]) := (littleL_byt _ _).app (by intro x hx; simp at hx; omega)
theorem little2 (k : Int) (h0 : 0 ≤ k) (h1 : k < 65536) : littleL k 2 = [k % 256, k / 256] := by
  show [k % 256, k / 256 % 256] = _
  rw [show k / 256 % 256 = k / 256 by omega]
def keyN (k : Int) : Nat → Int
  | 0 => k
  | n + 1 => keyPart (keyN k n) 2
def msgKey (k : Int) (n : Nat) : Int := keyPart (keyN k n) 1
theorem keyN_bd {k : Int} (h0 : 0 ≤ k) (h1 : k < 65536) : ∀ n, 0 ≤ keyN k n ∧ keyN k n < 65536
  | 0 => ⟨h0, h1⟩
  | n + 1 => keyPart_bd _ _
theorem setone {W : World} {b : Nat} {v u : Value} {t : TypeId} (h : W.heap[b]? = some (.cells #[v] t (0, 0))) : (W.setCell ⟨b, 0, none⟩ u).heap[b]? = some (.cells #[u] t (0, 0)) := by
  simp [World.setCell, Array.getElem?_modify, h]
end Lw
set_option linter.unusedVariables false
set_option linter.unusedSimpArgs false
namespace Go.Proofs.Ytlgegdmnbhoepaa
open Go.RowKit
set_option maxHeartbeats 1000000 in
theorem ratchet_part (k b : Int) (w : World) (k1 : 0 ≤ k) (k2 : k < 65536) (b1 : 0 ≤ b) (b2 : b < 256) :
    Calls Try.prog 123 #[.int .i64 k, .int .u8 b] w fun e w' => e = .returned (.int .i64 (Lw.keyPart k b)) ∧ Below w.heap.size w w' := by
  have C := fun A c w R => hash_Of A 3 c (Lw.littleL k 2 ++ [b]) w R (Lw.keyPart_byt b1 b2) (by omega)
  obtain ⟨s1, s2⟩ := Lw.keyPart_bd k b
  have E : Lw.hsum (Lw.littleL k 2 ++ [b]) = Lw.keyPart k b := rfl
  rw [E] at C
  rw [Lw.little2 k k1 k2] at C
  have C := Lib.hid C
  clear E
  generalize Lw.keyPart k b = s at *
  go_enter Try.func123, Try.ntmps123
  go_wp2_with (go_at_call 164; refine (C.out _ _ _ (by first | exact Lw.Rd.nil _ _ _ | exact Lw.Rd.lit (Lw.blk_new' (by simp) _ _) rfl rfl | exact Lw.Rd.lit (Lw.blk_alloc (Lw.blk_new' (by simp) _ _) _) rfl rfl)).mono ?_; rintro e w1 ⟨rfl, hb1⟩)
  go_ret
  exact ⟨rfl, by (repeat (first | exact Below.refl _ _ | refine Lw.bt ?_ (by assumption) | refine Lw.balloc ?_ _ | refine Lw.bdrewN ?_ _ | refine Below.drew ?_ | refine Lw.bset ?_ (by first | (simp; done) | (simp; omega) | omega) _))⟩
set_option maxHeartbeats 1000000 in
theorem ratchet_turn (k : Int) (b : Nat) (t : TypeId) (w : World) (k1 : 0 ≤ k) (k2 : k < 65536) (hb : w.heap[b]? = some (.cells #[.int .i64 k] t (0, 0))) :
    Calls Try.prog 74 #[.pointer (some ⟨b, 0, none⟩)] w fun e w' => e = .returned (.int .i64 (Lw.keyPart k 1)) ∧ w'.heap[b]? = some (.cells #[.int .i64 (Lw.keyPart k 2)] t (0, 0)) ∧ w.grownBy w' (some b) := by
  have c0 := Lw.blk_cell hb 0
  have fr := fun i => Lw.blk_free hb i
  simp at c0
  have hlt := Lw.blk_lt hb
  have HB := Lib.hid hb
  clear hb
  go_enter Try.func74, Try.ntmps74
  go_wp2_with (first | (go_at_call 123; (with_reducible refine (ratchet_part k 1 _ k1 k2 (by decide) (by decide)).mono ?_); rintro e w1 ⟨rfl, hb1⟩; obtain ⟨hc1, hf1⟩ := Lw.bcell hb1; have hz1 := hb1.size; have hlt1 : b < w1.heap.size := (by omega)) | (go_at_call 123; (with_reducible refine (ratchet_part k 2 _ k1 k2 (by decide) (by decide)).mono ?_); rintro e w2 ⟨rfl, hb2⟩; obtain ⟨hc2, hf2⟩ := Lw.bcell hb2))
  go_ret
  have h2 := (hb2.block b hlt1).trans ((hb1.block b hlt).trans HB.out)
  have hB := Lw.bt hb1 hb2
  exact ⟨rfl, Lw.setone h2, Lw.grown_set hB _⟩
set_option maxHeartbeats 2000000 in
theorem ref_messageKey (k : Int) (n : Nat) (w : World) (k1 : 0 ≤ k) (k2 : k < 65536) (hn : n ≤ 1048576) :
    Calls Try.prog 77 #[.int .i64 k, .int .i64 (n : Int)] w fun e w' => e = .returned (.int .i64 (Lw.msgKey k n)) ∧ Below w.heap.size w w' := by
  go_enter Try.func77, Try.ntmps77
  go_wp2
  go_loopw [0, 5] (fun x j wr => ∃ (i : Nat), x = .int .i64 (Lw.keyN k i) ∧ j = .int .i64 (i : Int) ∧ i ≤ n ∧ Below w.heap.size w wr) (fun _ j _ => n - (intOf j).toNat)
  case atStart => exact ⟨0, rfl, rfl, Nat.zero_le _, Below.refl _ _⟩
  case round =>
    obtain ⟨i, rfl, rfl, i1, hB⟩ := hrel
    obtain ⟨m1, m2⟩ := Lw.keyN_bd k1 k2 i
    have E1 : Hid (Lw.keyPart (Lw.keyN k i) 2 = Lw.keyN k (i + 1)) := rfl
    have E2 : Hid (Lw.keyPart (Lw.keyN k i) 1 = Lw.msgKey k i) := rfl
    have hsz := hB.size
    by_cases hlt : i < n
    · generalize Lw.keyN k i = m at *
      have C := Lib.hid (fun (A : Option Addr) (c : Nat) (w : World) R => ref_Sum A (2 + 1) c (Lw.littleL m 2 ++ [2]) w R (Lw.keyPart_byt (by decide) (by decide)) (by omega))
      go_wp2_with fail
      refine (ref_little m 2 _ m1 (by omega) (by omega)).mono ?_
      rintro e w1 ⟨A1, c1, rfl, own1, hb1⟩
      go_wp2_with (at_builtin; refine Lw.wpList_app elByte rfl (.tmp 12) (.tmp 13) rfl rfl (own1.alloc _) rfl (by first | exact Lw.Rd.nil _ _ _ | exact Lw.Rd.lit (Lw.blk_new' (by simp) _ _) rfl rfl | exact Lw.Rd.lit (Lw.blk_alloc (Lw.blk_new' (by simp) _ _) _) rfl rfl) (Lw.one1 _ _) (by omega) (Lw.balloc (Lw.bt hB hb1) _) hsz (by have := hb1.size; simp; omega) ?_; intro v2 w2 own2 hb2 _ _)
      obtain ⟨A2, c2, rfl, _⟩ := Lw.ownsForm own2
      refine (C.out _ _ _ (by have := Lw.Rd.of_own own2; rw [Lw.intsV_app]; exact this)).mono ?_
      rintro e w3 ⟨rfl, hb3⟩
      go_wp2_with fail
      go_roundw
      case rel => exact ⟨i + 1, by rw [← E1.out]; rfl, by go_num, by omega, Lw.bt hb2 hb3⟩
      case measure => simp [intOf]; omega
    · have hi : i = n := by omega
      subst hi
      generalize Lw.keyN k i = m at *
      have C := Lib.hid (fun (A : Option Addr) (c : Nat) (w : World) R => ref_Sum A (2 + 1) c (Lw.littleL m 2 ++ [1]) w R (Lw.keyPart_byt (by decide) (by decide)) (by omega))
      go_wp2_with fail
      refine (ref_little m 2 _ m1 (by omega) (by omega)).mono ?_
      rintro e w1 ⟨A1, c1, rfl, own1, hb1⟩
      go_wp2_with (at_builtin; refine Lw.wpList_app elByte rfl (.tmp 17) (.tmp 18) rfl rfl (own1.alloc _) rfl (by first | exact Lw.Rd.nil _ _ _ | exact Lw.Rd.lit (Lw.blk_new' (by simp) _ _) rfl rfl | exact Lw.Rd.lit (Lw.blk_alloc (Lw.blk_new' (by simp) _ _) _) rfl rfl) (Lw.one1 _ _) (by omega) (Lw.balloc (Lw.bt hB hb1) _) hsz (by have := hb1.size; simp; omega) ?_; intro v2 w2 own2 hb2 _ _)
      obtain ⟨A2, c2, rfl, _⟩ := Lw.ownsForm own2
      refine (C.out _ _ _ (by have := Lw.Rd.of_own own2; rw [Lw.intsV_app]; exact this)).mono ?_
      rintro e w3 ⟨rfl, hb3⟩
      go_wp2_with fail
      go_ret
      rw [← E2.out]
      exact ⟨rfl, Lw.bt hb2 hb3⟩
end Go.Proofs.Ytlgegdmnbhoepaa

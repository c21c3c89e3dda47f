/- The law RatchetPlays: what each post of a script does. -/
import Derived.Test.YtlgegdmnbhoepaaRcy
import Derived.Test.YtlgegdmnbhoepaaOpen
set_option linter.unusedVariables false
namespace Lw
open Go Go.RowKit
theorem listI3 : ∀ {L : List (List Value)}, (∀ vs ∈ L, All2 [IsI .i64, IsI .i64, IsI .i64] vs) → ∃ T : List (Int × Int × Int), T.length = L.length ∧ L.flatten = tripsV T
  | [], _ => ⟨[], rfl, rfl⟩
  | vs :: L, h => by
    obtain ⟨T, hl, hT⟩ := listI3 (L := L) fun z hz => h z (by simp [hz])
    have h0 := h vs (by simp)
    cases h0 with | cons a h1 => cases h1 with | cons b h2 => cases h2 with | cons d h3 => cases h3 with | nil =>
      obtain ⟨n0, rfl, w0⟩ := a
      obtain ⟨n1, rfl, w1⟩ := b
      obtain ⟨n2, rfl, w2⟩ := d
      exact ⟨(n0, n1, n2) :: T, by simp [hl], by simp [hT, tripsV]⟩
end Lw
namespace Go.Proofs.Ytlgegdmnbhoepaa
open Go.RowKit
set_option maxHeartbeats 1000000 in
theorem ref_Posts (A B : Option Addr) (n c d : Nat) (xs : List (Int × Int)) (w : World) (R1 : Lw.Rd w 2 A n (Lw.pairsV .i64 .i64 xs)) (R2 : Lw.Rd w 2 B n (Lw.pairsV .i64 .i64 xs)) (hn : n ≤ 1048576) :
    Calls Try.prog 32 #[.slice A n c, .slice B n d] w fun e w' => e = .returned (.bool true) ∧ Below w.heap.size w w' := by
  have L1 := Lib.hid (show xs.length = n by have := R1.1; rw [Lw.pairsV_length] at this; omega)
  have R1 := Lib.hid R1
  have R2 := Lib.hid R2
  go_enter Try.func32, Try.ntmps32
  go_wp2
  go_loopw [5] (fun i wr => ∃ k : Nat, i = .int .i64 (k : Int) ∧ k ≤ n ∧ Below w.heap.size w wr) (fun i _ => n - (intOf i).toNat)
  case atStart => exact ⟨0, rfl, by omega, Below.refl _ _⟩
  case round =>
    obtain ⟨k, rfl, k1, hB⟩ := hrel
    by_cases hlt : k < n
    · have hl : k < xs.length := by have := L1.out; omega
      obtain ⟨a1, rfl, ha1, c1, d1⟩ := (R1.out.below (Nat.le_refl _) hB).at2 hlt (Lw.pairsV_get hl).1 (Lw.pairsV_get hl).2
      obtain ⟨a2, rfl, ha2, c2, d2⟩ := (R2.out.below (Nat.le_refl _) hB).at2 hlt (Lw.pairsV_get hl).1 (Lw.pairsV_get hl).2
      obtain ⟨⟨x, y⟩, hx⟩ : ∃ x, xs[k] = x := ⟨_, rfl⟩
      rw [hx] at c1 c2 d1 d2
      simp only at c1 c2 d1 d2
      clear hx
      have i0 : (0 : Int) ≤ (k : Int) := by omega
      have i1 : (k : Int) < (n : Int) := by omega
      have z1 : (x == x) = true := by simp
      have z2 : (y == y) = true := by simp
      go_wp2
      refine wp_region_held_drew (S := fun w' => (w'.cell? (a1.add (k * 2)) = some (.int .i64 x) ∧ w'.cell? ⟨(a1.add (k * 2)).block, (a1.add (k * 2)).off + 1, none⟩ = some (.int .i64 y)) ∧ (w'.cell? (a2.add (k * 2)) = some (.int .i64 x) ∧ w'.cell? ⟨(a2.add (k * 2)).block, (a2.add (k * 2)).off + 1, none⟩ = some (.int .i64 y)) ∧ True ∧ True) (by kernel_rfl) (by exact ⟨⟨c1, d1⟩, ⟨c2, d2⟩, trivial, trivial⟩) (fun hHeld => ?_)
      (refine Lw.take1 (i := 0) (v := ?_) rfl (by kernel_rfl) (by kernel_rfl) (by kernel_rfl) (fun _ _ _ h => h) (Or.inl ⟨by rfl, ?_⟩) (by assumption) ?_; rotate_left 1; (focus (intro wS hSw; obtain ⟨hS1, hS2, hS3, hS4⟩ := hSw; go_simp <;> with_reducible rfl)); (try simp only [Act.put, List.setIfInBounds_toArray, List.set_cons_zero, List.set_cons_succ]))
      (refine Lw.take1 (i := 1) (v := ?_) rfl (by kernel_rfl) (by kernel_rfl) (by kernel_rfl) (fun _ _ _ h => h) (Or.inl ⟨by rfl, ?_⟩) (by assumption) ?_; rotate_left 1; (focus (intro wS hSw; obtain ⟨hS1, hS2, hS3, hS4⟩ := hSw; go_simp <;> with_reducible rfl)); (try simp only [Act.put, List.setIfInBounds_toArray, List.set_cons_zero, List.set_cons_succ]))
      (refine Lw.take1 (i := 2) (v := ?_) rfl (by kernel_rfl) (by kernel_rfl) (by kernel_rfl) (fun _ _ _ h => h) (Or.inl ⟨by rfl, ?_⟩) (by assumption) ?_; rotate_left 1; (focus (intro wS hSw; obtain ⟨hS1, hS2, hS3, hS4⟩ := hSw; go_simp <;> with_reducible rfl)); (try simp only [Act.put, List.setIfInBounds_toArray, List.set_cons_zero, List.set_cons_succ]))
      (refine Lw.take1 (i := 3) (v := ?_) rfl (by kernel_rfl) (by kernel_rfl) (by kernel_rfl) (fun _ _ _ h => h) (Or.inl ⟨by rfl, ?_⟩) (by assumption) ?_; rotate_left 1; (focus (intro wS hSw; obtain ⟨hS1, hS2, hS3, hS4⟩ := hSw; go_simp <;> with_reducible rfl)); (try simp only [Act.put, List.setIfInBounds_toArray, List.set_cons_zero, List.set_cons_succ]))
      (refine Lw.take1 (i := 4) (v := ?_) rfl (by kernel_rfl) (by kernel_rfl) (by kernel_rfl) (fun _ _ _ h => h) (Or.inl ⟨by rfl, ?_⟩) (by assumption) ?_; rotate_left 1; (focus (intro wS hSw; obtain ⟨hS1, hS2, hS3, hS4⟩ := hSw; go_simp <;> with_reducible rfl)); (try simp only [Act.put, List.setIfInBounds_toArray, List.set_cons_zero, List.set_cons_succ]))
      (refine Lw.take1 (i := 5) (v := ?_) rfl (by kernel_rfl) (by kernel_rfl) (by kernel_rfl) (fun _ _ _ h => h) (Or.inl ⟨by rfl, ?_⟩) (by assumption) ?_; rotate_left 1; (focus (intro wS hSw; obtain ⟨hS1, hS2, hS3, hS4⟩ := hSw; go_simp <;> with_reducible rfl)); (try simp only [Act.put, List.setIfInBounds_toArray, List.set_cons_zero, List.set_cons_succ]))
      (refine Lw.take1 (i := 6) (v := ?_) rfl (by kernel_rfl) (by kernel_rfl) (by kernel_rfl) (fun _ _ _ h => h) (Or.inl ⟨by rfl, ?_⟩) (by assumption) ?_; rotate_left 1; (focus (intro wS hSw; obtain ⟨hS1, hS2, hS3, hS4⟩ := hSw; go_simp <;> with_reducible rfl)); (try simp only [Act.put, List.setIfInBounds_toArray, List.set_cons_zero, List.set_cons_succ]))
      (refine Lw.take1 (i := 7) (v := ?_) rfl (by kernel_rfl) (by kernel_rfl) (by kernel_rfl) (fun _ _ _ h => h) (Or.inl ⟨by rfl, ?_⟩) (by assumption) ?_; rotate_left 1; (focus (intro wS hSw; obtain ⟨hS1, hS2, hS3, hS4⟩ := hSw; go_simp <;> with_reducible rfl)); (try simp only [Act.put, List.setIfInBounds_toArray, List.set_cons_zero, List.set_cons_succ]))
      (refine Lw.take1 (i := 8) (v := ?_) rfl (by kernel_rfl) (by kernel_rfl) (by kernel_rfl) (fun _ _ _ h => h) (Or.inl ⟨by rfl, ?_⟩) (by assumption) ?_; rotate_left 1; (focus (intro wS hSw; obtain ⟨hS1, hS2, hS3, hS4⟩ := hSw; go_simp <;> with_reducible rfl)); (try simp only [Act.put, List.setIfInBounds_toArray, List.set_cons_zero, List.set_cons_succ]))
      refine wpAnyH_done (by kernel_rfl) ?_ _
      go_wp2
      go_roundw
      case rel => exact ⟨k + 1, by go_num, by omega, Below.drew hB⟩
      case measure => simp [intOf]; omega
    · have i1 : ¬ (k : Int) < (n : Int) := by omega
      go_wp2
      go_ret
      exact ⟨rfl, hB⟩
end Go.Proofs.Ytlgegdmnbhoepaa
namespace Go.Proofs.Ytlgegdmnbhoepaa.LW
open Go.RowKit
set_option maxHeartbeats 2000000 in
theorem RatchetPlays (key most : Int) (A : Option Addr) (n c : Nat) (w : World) (w1 : (Lit.int .i64 key).wf = true) (w2 : (Lit.int .i64 most).wf = true) (h : Lw.IsSl w [Lw.IsI .i64, Lw.IsI .i64, Lw.IsI .i64] A n c) :
    Calls Try.prog 9 #[.int .i64 key, .int .i64 most, .slice A n c] w fun e w' => e = .returned (.bool true) ∧ Below w.heap.size w w' := by
  obtain ⟨L, l1, l2, l3⟩ := h.list (by simp)
  obtain ⟨T, t1, t2⟩ := Lw.listI3 l2
  rw [t2] at l3
  have R : Lw.Rd w 3 A n (Lw.tripsV T) := l3
  have hT : T.length = n := by rw [t1, l1]
  clear l1 l2 l3 t1 t2
  by_cases hr : key < 0 ∨ 65535 < key ∨ most < 0 ∨ 100 < most
  · have PL := Lib.hid (play_range key most A n c w hr)
    rcases (by omega : key < 0 ∨ (¬ key < 0 ∧ 65535 < key) ∨ (¬ key < 0 ∧ ¬ 65535 < key ∧ most < 0) ∨ (¬ key < 0 ∧ ¬ 65535 < key ∧ ¬ most < 0 ∧ 100 < most)) with k1 | ⟨k1, k2⟩ | ⟨k1, k2, k3⟩ | ⟨k1, k2, k3, k4⟩
    all_goals
      clear hr h R hT
      go_enter Try.func9, Try.ntmps9
      go_wp2_with (go_at_call 31; (with_reducible refine (PL.out).mono ?_); rintro e w' ⟨rfl, rfl⟩)
      go_ret
      exact ⟨by simp, Below.refl _ _⟩
  · have k1 : ¬ key < 0 := by omega
    have k2 : ¬ 65535 < key := by omega
    have k3 : ¬ most < 0 := by omega
    have k4 : ¬ 100 < most := by omega
    by_cases hn : 100 < n
    · have PL := Lib.hid (play_large key most A n c w (by omega) (by omega) (by omega) (by omega) hn)
      have hn' : (100 : Int) < (n : Int) := by omega
      clear hr h R hT
      go_enter Try.func9, Try.ntmps9
      go_wp2_with (go_at_call 31; (with_reducible refine (PL.out).mono ?_); rintro e w' ⟨rfl, rfl⟩)
      go_ret
      exact ⟨by simp, Below.refl _ _⟩
    · have PL := ratchet_Play key most A n c T w R (by omega) (by omega) (by omega) (by omega) (by omega)
      have RF := fun w' (hb : Below w.heap.size w w') => ref_Ratchet key most A n c T w' (R.below (Nat.le_refl _) hb) (by omega) (by omega) (by omega) (by omega) (by omega)
      have hl : (Lw.rRun key most T).1.length ≤ 100 := by
        have := Lw.rrun_len key most T T.length (Nat.le_refl _)
        rw [List.take_length] at this
        omega
      have hn' : ¬ (100 : Int) < (n : Int) := by omega
      generalize (Lw.rRun key most T).1 = out at *
      replace PL := Lib.hid PL
      replace RF := Lib.hid RF
      clear hr h R hT
      go_enter Try.func9, Try.ntmps9
      go_wp2_with fail
      refine PL.out.mono ?_
      rintro e w1 ⟨A1, c1, rfl, own1, hb1⟩
      have R1 := Lib.hid (Lw.Rd.of_own own1)
      clear own1
      go_wp2_with (first | (go_at_call 33; (with_reducible refine (RF.out _ hb1).mono ?_); rintro e w3 ⟨A3, c3, rfl, own3, hb3⟩; have R3 := Lib.hid (Lw.Rd.of_own own3); clear own3) | (go_at_call 32; (with_reducible refine (ref_Posts A1 A3 out.length c1 c3 out _ (R1.out.below (Nat.le_refl _) hb3) R3.out (by omega)).mono ?_); rintro e w4 ⟨rfl, hb4⟩))
      go_ret
      exact ⟨by simp, Lw.bt (Lw.bt hb1 hb3) hb4⟩
end Go.Proofs.Ytlgegdmnbhoepaa.LW

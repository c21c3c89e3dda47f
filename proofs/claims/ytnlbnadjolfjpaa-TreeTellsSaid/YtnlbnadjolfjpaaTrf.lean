/- What is summed: leafs and pairs; what is wrong with a place. -/
import Derived.Test.YtnlbnadjolfjpaaTre
namespace Lw
open Go Go.RowKit
def pairT (a b : Int) : List Int := [1] ++ littleL a 2 ++ littleL b 2
theorem pairT_eq (a b : Int) : pairT a b = [1, a % 256, a / 256 % 256, b % 256, b / 256 % 256] := rfl
theorem pairT_byt (a b : Int) : Byt (pairT a b) := by
  intro x hx
  rw [pairT_eq] at hx
  simp at hx
  omega
theorem leafT_byt {zs : List Int} (h : Byt zs) : Byt (0 :: zs) := by
  intro x hx
  rcases List.mem_cons.1 hx with rfl | hx
  · omega
  · exact h x hx
/-- what is wrong with a place, a leaf and a proof -/
def plcE (n i : Int) (l k : Nat) : Int := if n < 1 ∨ 64 < n ∨ i < 0 ∨ n ≤ i then 3 else if 4096 ≤ l ∨ 64 < k then 1 else 0
theorem plc_arg {n i : Int} {l k : Nat} (h : n < 1 ∨ 64 < n ∨ i < 0 ∨ n ≤ i) : plcE n i l k = 3 := if_pos h
theorem plc_large {n i : Int} {l k : Nat} (h : ¬ (n < 1 ∨ 64 < n ∨ i < 0 ∨ n ≤ i)) (h2 : 4096 ≤ l ∨ 64 < k) : plcE n i l k = 1 := by unfold plcE; rw [if_neg h, if_pos h2]
theorem plc_ok {n i : Int} {l k : Nat} (h : ¬ (n < 1 ∨ 64 < n ∨ i < 0 ∨ n ≤ i)) (h2 : ¬ (4096 ≤ l ∨ 64 < k)) : plcE n i l k = 0 := by unfold plcE; rw [if_neg h, if_neg h2]
theorem plc_in {n i : Int} {l k : Nat} (h : plcE n i l k = 0) : 1 ≤ n ∧ n ≤ 64 ∧ 0 ≤ i ∧ i < n ∧ l < 4096 ∧ k ≤ 64 := by
  by_cases h1 : n < 1 ∨ 64 < n ∨ i < 0 ∨ n ≤ i
  · rw [plc_arg h1] at h; cases h
  · by_cases h2 : 4096 ≤ l ∨ 64 < k
    · rw [plc_large h1 h2] at h; cases h
    · omega
end Lw
set_option linter.unusedVariables false
set_option linter.unusedSimpArgs false
namespace Go.Proofs.Ytnlbnadjolfjpaa
open Go.RowKit
set_option maxHeartbeats 1000000 in
theorem tree_leafText (A : Option Addr) (n c : Nat) (zs : List Int) (w : World) (R : Lw.Rd w 1 A n (Lw.intsV .u8 zs)) (hn : n ≤ 1048576) :
    Calls Try.prog 61 #[.slice A n c] w (Lw.OwnRes 5 1 (Lw.intsV .u8 (0 :: zs)) (1 + n) w) := by
  have R := Lib.hid R
  have E : Hid (Lw.intsV .u8 (0 :: zs) = Lw.intsV .u8 [0] ++ Lw.intsV .u8 zs) := rfl
  go_enter Try.func61, Try.ntmps61
  go_wp2_with (go_at_call 82; refine (bytes_cat _ _ A _ _ c 1 n _ _ _ (by first | exact Lw.Rd.nil _ _ _ | exact Lw.Rd.lit (Lw.blk_new' (by simp) _ _) rfl rfl | exact Lw.Rd.lit (Lw.blk_alloc (Lw.blk_new' (by simp) _ _) _) rfl rfl) (by exact Lw.Rd.lit (Lw.blk_alloc (Lw.blk_new' (by simp) _ _) _) rfl rfl) ((R.out.alloc _).alloc _) (Lw.intsV_one _ [0]) (Lw.intsV_one _ _) (by omega)).mono ?_; rintro e w2 ⟨A2, c2, rfl, own2, hb2⟩)
  go_ret
  rw [E.out]
  exact ⟨A2, c2, rfl, Lw.ownsBase own2 (by simp; omega), by (repeat (first | exact Below.refl _ _ | refine Lw.bt ?_ (by assumption) | refine Lw.balloc ?_ _ | refine Lw.bdrewN ?_ _ | refine Below.drew ?_ | refine Lw.bset ?_ (by first | (simp; done) | (simp; omega) | omega) _))⟩
set_option maxHeartbeats 1000000 in
theorem tree_pairText (a b : Int) (w : World) (a0 : 0 ≤ a) (a1 : a < 65536) (b0 : 0 ≤ b) (b1 : b < 65536) :
    Calls Try.prog 66 #[.int .u32 a, .int .u32 b] w (Lw.OwnRes 5 1 (Lw.intsV .u8 (Lw.pairT a b)) 5 w) := by
  have E : Hid (Lw.pairT a b = [1, a % 256, a / 256 % 256, b % 256, b / 256 % 256]) := Lw.pairT_eq a b
  go_enter Try.func66, Try.ntmps66
  go_wp2
  go_ret
  rw [E.out]
  refine ⟨_, _, rfl, Lw.own_lit w (xs := Lw.intsV .u8 [1, a % 256, a / 256 % 256, b % 256, b / 256 % 256]) ?_ rfl (by decide) (Nat.le_refl _), Lw.balloc (Below.refl _ _) _⟩
  simp [Lw.intsV]
  omega
set_option maxHeartbeats 1000000 in
theorem ref_LeafText (A : Option Addr) (n c : Nat) (zs : List Int) (w : World) (R : Lw.Rd w 1 A n (Lw.intsV .u8 zs)) (hn : n ≤ 1048576) :
    Calls Try.prog 40 #[.slice A n c] w (Lw.OwnRes 5 1 (Lw.intsV .u8 (0 :: zs)) (1 + n) w) := by
  have R := Lib.hid R
  have E : Hid (Lw.intsV .u8 (0 :: zs) = Lw.intsV .u8 [0] ++ Lw.intsV .u8 zs) := rfl
  go_enter Try.func40, Try.ntmps40
  go_wp2_with (at_builtin; refine Lw.wpList_app elByte rfl _ _ rfl rfl (Lw.own_lit w (xs := Lw.intsV .u8 [0]) rfl rfl (by decide) (Nat.le_refl _)) rfl (R.out.alloc _) (Lw.intsV_one _ _) (by omega) (Lw.balloc (Below.refl _ _) _) (Nat.le_refl _) (by simp) ?_; intro v2 w2 own2 hb2 _ _)
  go_ret
  rw [E.out]
  obtain ⟨A2, c2, rfl, _⟩ := Lw.ownsForm own2
  exact ⟨A2, c2, rfl, own2, hb2⟩
set_option maxHeartbeats 1000000 in
theorem ref_PairText (a b : Int) (w : World) (a0 : 0 ≤ a) (a1 : a < 65536) (b0 : 0 ≤ b) (b1 : b < 65536) :
    Calls Try.prog 42 #[.int .i64 a, .int .i64 b] w (Lw.OwnRes 5 1 (Lw.intsV .u8 (Lw.pairT a b)) 5 w) := by
  have E : Hid (Lw.intsV .u8 (Lw.pairT a b) = (Lw.intsV .u8 [1] ++ Lw.intsV .u8 (Lw.littleL a 2)) ++ Lw.intsV .u8 (Lw.littleL b 2)) := by
    unfold Lw.pairT; rw [Lw.intsV_app, Lw.intsV_app]; exact rfl
  go_enter Try.func42, Try.ntmps42
  go_wp2_with fail
  refine (ref_little a 2 _ a0 (by omega) (by omega)).mono ?_
  rintro e w1 ⟨A1, c1, rfl, own1, hb1⟩
  have hs1 := hb1.size
  simp at hs1
  have R1 := Lib.hid (Lw.Rd.of_own own1)
  have O0 := Lib.hid (Lw.own_lit w (e := 5) (size := 1) (cs := #[.int .u8 1]) (xs := Lw.intsV .u8 [1]) rfl rfl (by decide) (Nat.le_refl _))
  go_wp2_with (at_builtin; refine Lw.wpList_app elByte rfl _ _ rfl rfl (Lw.ownsBelow O0.out (Nat.le_refl _) hb1) rfl R1.out (Lw.intsV_one _ _) (by omega) ((Lw.balloc (Below.refl _ _) _).trans (hb1.mono (by simp))) (Nat.le_refl _) (by omega) ?_; intro v2 w2 own2 hb2 _ _)
  have hs2 := hb2.size
  have O2 := Lib.hid own2
  clear own2
  refine (ref_little b 2 _ b0 (by omega) (by omega)).mono ?_
  rintro e w3 ⟨A3, c3, rfl, own3, hb3⟩
  have hs3 := hb3.size
  have R3 := Lib.hid (Lw.Rd.of_own own3)
  go_wp2_with (at_builtin; refine Lw.wpList_app elByte rfl _ _ rfl rfl (Lw.ownsBelow O2.out (Nat.le_refl _) hb3) rfl R3.out (Lw.intsV_one _ _) (by omega) (Lw.bt hb2 hb3) (Nat.le_refl _) (by omega) ?_; intro v4 w4 own4 hb4 _ _)
  go_ret
  rw [E.out]
  obtain ⟨A2, c2, rfl, _⟩ := Lw.ownsForm own4
  exact ⟨A2, c2, rfl, own4, hb4⟩
set_option maxHeartbeats 1000000 in
theorem tree_long (A : Option Addr) (n c : Nat) (w : World) : Calls Try.prog 60 #[.slice A n c] w fun e w' => e = .returned (.bool (decide (4096 ≤ n))) ∧ w = w' := by
  by_cases h : 4096 ≤ n
  · have h1 : (4096 : Int) ≤ (n : Int) := by omega
    go_enter Try.func60, Try.ntmps60
    go_wp2
    go_ret
    exact ⟨by simp <;> omega, rfl⟩
  · have h1 : ¬ (4096 : Int) ≤ (n : Int) := by omega
    go_enter Try.func60, Try.ntmps60
    go_wp2
    go_ret
    exact ⟨by simp <;> omega, rfl⟩
set_option maxHeartbeats 2000000 in
theorem place_wrong (n i : Int) (A B : Option Addr) (l k c d : Nat) (w : World) :
    Calls Try.prog 43 #[.agg #[.int .i64 n, .int .i64 i], .slice A l c, .slice B k d] w fun e w' => e = .returned (.int .i64 (Lw.plcE n i l k)) ∧ Below w.heap.size w w' := by
  have TL := Lib.hid (fun w => tree_long A l c w)
  by_cases h : n < 1 ∨ 64 < n ∨ i < 0 ∨ n ≤ i
  · have E := Lib.hid (Lw.plc_arg (l := l) (k := k) h)
    generalize Lw.plcE n i l k = V at *
    rcases (by omega : n < 1 ∨ (¬ n < 1 ∧ 64 < n) ∨ (¬ n < 1 ∧ ¬ 64 < n ∧ i < 0) ∨ (¬ n < 1 ∧ ¬ 64 < n ∧ ¬ i < 0 ∧ n ≤ i)) with k1 | ⟨k1, k2⟩ | ⟨k1, k2, k3⟩ | ⟨k1, k2, k3, k4⟩
    all_goals
      clear h
      go_enter Try.func43, Try.ntmps43
      go_wp2
      go_ret
      exact ⟨by rw [E.out]; rfl, by (repeat (first | exact Below.refl _ _ | refine Lw.bt ?_ (by assumption) | refine Lw.balloc ?_ _ | refine Lw.bdrewN ?_ _ | refine Below.drew ?_ | refine Lw.bset ?_ (by first | (simp; done) | (simp; omega) | omega) _))⟩
  · have k1 : ¬ n < 1 := by omega
    have k2 : ¬ 64 < n := by omega
    have k3 : ¬ i < 0 := by omega
    have k4 : ¬ n ≤ i := by omega
    by_cases h2 : 4096 ≤ l ∨ 64 < k
    · have E := Lib.hid (Lw.plc_large h h2)
      generalize Lw.plcE n i l k = V at *
      by_cases h3 : 4096 ≤ l
      · have z : decide (4096 ≤ l) = true := decide_eq_true h3
        rw [z] at TL
        clear h h2
        go_enter Try.func43, Try.ntmps43
        go_wp2_with (go_at_call 60; (with_reducible refine (TL.out _).mono ?_); rintro e w' ⟨rfl, rfl⟩)
        go_ret
        exact ⟨by rw [E.out]; rfl, by (repeat (first | exact Below.refl _ _ | refine Lw.bt ?_ (by assumption) | refine Lw.balloc ?_ _ | refine Lw.bdrewN ?_ _ | refine Below.drew ?_ | refine Lw.bset ?_ (by first | (simp; done) | (simp; omega) | omega) _))⟩
      · have z : decide (4096 ≤ l) = false := decide_eq_false h3
        rw [z] at TL
        have h4 : (64 : Int) < (k : Int) := by omega
        clear h h2
        go_enter Try.func43, Try.ntmps43
        go_wp2_with (go_at_call 60; (with_reducible refine (TL.out _).mono ?_); rintro e w' ⟨rfl, rfl⟩)
        go_ret
        exact ⟨by rw [E.out]; rfl, by (repeat (first | exact Below.refl _ _ | refine Lw.bt ?_ (by assumption) | refine Lw.balloc ?_ _ | refine Lw.bdrewN ?_ _ | refine Below.drew ?_ | refine Lw.bset ?_ (by first | (simp; done) | (simp; omega) | omega) _))⟩
    · have E := Lib.hid (Lw.plc_ok h h2)
      generalize Lw.plcE n i l k = V at *
      have z : decide (4096 ≤ l) = false := decide_eq_false (by omega)
      rw [z] at TL
      have h4 : ¬ (64 : Int) < (k : Int) := by omega
      clear h h2
      go_enter Try.func43, Try.ntmps43
      go_wp2_with (go_at_call 60; (with_reducible refine (TL.out _).mono ?_); rintro e w' ⟨rfl, rfl⟩)
      go_ret
      exact ⟨by rw [E.out]; rfl, by (repeat (first | exact Below.refl _ _ | refine Lw.bt ?_ (by assumption) | refine Lw.balloc ?_ _ | refine Lw.bdrewN ?_ _ | refine Below.drew ?_ | refine Lw.bset ?_ (by first | (simp; done) | (simp; omega) | omega) _))⟩
set_option maxHeartbeats 2000000 in
theorem ref_PlaceCheck (n i : Int) (A B : Option Addr) (l k c d : Nat) (w : World) :
    Calls Try.prog 20 #[.int .i64 n, .int .i64 i, .slice A l c, .slice B k d] w fun e w' => e = .returned (.int .i64 (Lw.plcE n i l k)) ∧ w = w' := by
  by_cases h : n < 1 ∨ 64 < n ∨ i < 0 ∨ n ≤ i
  · have E := Lib.hid (Lw.plc_arg (l := l) (k := k) h)
    generalize Lw.plcE n i l k = V at *
    rcases (by omega : n < 1 ∨ (¬ n < 1 ∧ 64 < n) ∨ (¬ n < 1 ∧ ¬ 64 < n ∧ i < 0) ∨ (¬ n < 1 ∧ ¬ 64 < n ∧ ¬ i < 0 ∧ n ≤ i)) with k1 | ⟨k1, k2⟩ | ⟨k1, k2, k3⟩ | ⟨k1, k2, k3, k4⟩
    all_goals
      clear h
      go_enter Try.func20, Try.ntmps20
      go_wp2
      go_ret
      exact ⟨by rw [E.out]; rfl, rfl⟩
  · have k1 : ¬ n < 1 := by omega
    have k2 : ¬ 64 < n := by omega
    have k3 : ¬ i < 0 := by omega
    have k4 : ¬ n ≤ i := by omega
    by_cases h2 : 4096 ≤ l ∨ 64 < k
    · have E := Lib.hid (Lw.plc_large h h2)
      generalize Lw.plcE n i l k = V at *
      rcases (by omega : (4095 : Int) < (l : Int) ∨ (¬ (4095 : Int) < (l : Int) ∧ (64 : Int) < (k : Int))) with h3 | ⟨h3, h4⟩
      all_goals
        clear h h2
        go_enter Try.func20, Try.ntmps20
        go_wp2
        go_ret
        exact ⟨by rw [E.out]; rfl, rfl⟩
    · have E := Lib.hid (Lw.plc_ok h h2)
      generalize Lw.plcE n i l k = V at *
      have h3 : ¬ (4095 : Int) < (l : Int) := by omega
      have h4 : ¬ (64 : Int) < (k : Int) := by omega
      clear h h2
      go_enter Try.func20, Try.ntmps20
      go_wp2
      go_ret
      exact ⟨by rw [E.out]; rfl, rfl⟩
end Go.Proofs.Ytnlbnadjolfjpaa

/- The law LiarsCounts: liars.Count is the number of those by which a number seems a prime. -/
import Derived.Test.YtcnifgdlihlkaaaStrong
import Derived.Test.YtcnifgdlihlkaaaCnt
set_option linter.unusedVariables false
namespace Lw
def liarN (n : Int) (k : Nat) : Nat := cnt (fun i => strongB ((i : Int) + 1) n) k
theorem liarN_le (n : Int) (k : Nat) : liarN n k ≤ k := cnt_le _ _
theorem liarN_yes {n : Int} {k : Nat} (h : strongB ((k : Int) + 1) n = true) : liarN n (k + 1) = liarN n k + 1 := by unfold liarN; rw [cnt_succ, if_pos h]
theorem liarN_no {n : Int} {k : Nat} (h : strongB ((k : Int) + 1) n = false) : liarN n (k + 1) = liarN n k := by unfold liarN; rw [cnt_succ, if_neg (by simp [h])]; rfl
end Lw
namespace Go.Proofs.Ytcnifgdlihlkaaa
open Go.RowKit
theorem liars_Count (n C : Int) (w : World) (h1 : 3 ≤ n) (h2 : n ≤ 4096) (h3 : (n % 2 == 0) = false) (hC : Hid (((Lw.liarN n (n - 1).toNat : Nat) : Int) = C)) :
    Calls Try.prog 35 #[.int .i64 n] w fun e w' => e = .returned (.tuple #[.int .i64 C, .int .i64 0]) ∧ w = w' := by
  go_enter Try.func35, Try.ntmps35
  go_wp2
  go_loop [4, 5] (fun c a => ∃ k : Nat, a = .int .i64 ((k : Int) + 1) ∧ (k : Int) + 1 ≤ n ∧ c = .int .i64 ((Lw.liarN n k : Nat) : Int)) (fun _ a => (4097 - intOf a).toNat)
  case atStart => exact ⟨0, rfl, by omega, rfl⟩
  case round =>
    obtain ⟨k, rfl, hk, rfl⟩ := hrel
    have hle := Lw.liarN_le n k
    by_cases hlt : (k : Int) + 1 < n
    · cases hs : Lw.strongB ((k : Int) + 1) n with
      | true =>
        have N := Lib.hid (Lw.liarN_yes hs)
        generalize Lw.liarN n k = L at *
        go_wp2_with (go_at_call 56; refine (liars_strong _ _ _ (by omega) (by omega)).mono ?_; rintro e w' ⟨rfl, rfl⟩)
        go_round
        case rel => exact ⟨k + 1, by go_num, by omega, by rw [N.out]; go_num⟩
        case measure => simp [intOf]; omega
      | false =>
        have N := Lib.hid (Lw.liarN_no hs)
        generalize Lw.liarN n k = L at *
        go_wp2_with (go_at_call 56; refine (liars_strong _ _ _ (by omega) (by omega)).mono ?_; rintro e w' ⟨rfl, rfl⟩)
        go_round
        case rel => exact ⟨k + 1, by go_num, by omega, by rw [N.out]⟩
        case measure => simp [intOf]; omega
    · have e : (n - 1).toNat = k := by omega
      have T : Hid (((Lw.liarN n k : Nat) : Int) = C) := by rw [← e]; exact hC.out
      clear e
      go_wp2
      go_ret2
      rw [T.out]; exact ⟨rfl, rfl⟩
end Go.Proofs.Ytcnifgdlihlkaaa
namespace Go.Proofs.Ytcnifgdlihlkaaa.LW
open Go.RowKit
set_option maxHeartbeats 1000000 in
theorem LiarsCounts (n : Int) (w : World) (wn : (Lit.int .i64 n).wf = true) :
    Calls Try.prog 10 #[.int .i64 n] w fun e w' => e = .returned (.bool true) ∧ Below w.heap.size w w' := by
  clear wn
  have hc : n < 3 ∨ (3 ≤ n ∧ 4096 < n) ∨ ((3 ≤ n ∧ n ≤ 4096) ∧ ((n % 2 == 0) = true ∨ (n % 2 == 0) = false)) := by
    cases (n % 2 == 0) <;> simp <;> omega
  rcases hc with h | ⟨h, h'⟩ | ⟨⟨h1, h2⟩, h3 | h3⟩
  · go_enter Try.func10, Try.ntmps10
    go_wp2
    go_ret
    exact ⟨rfl, Below.refl _ _⟩
  · go_enter Try.func10, Try.ntmps10
    go_wp2
    go_ret
    exact ⟨rfl, Below.refl _ _⟩
  · go_enter Try.func10, Try.ntmps10
    go_wp2
    go_ret
    exact ⟨rfl, Below.refl _ _⟩
  · obtain ⟨C, hC⟩ : ∃ C, ((Lw.liarN n (n - 1).toNat : Nat) : Int) = C := ⟨_, rfl⟩
    have HM := Lib.hid hC
    clear hC
    go_enter Try.func10, Try.ntmps10
    go_wp2_with fail
    refine (liars_Count _ C _ h1 h2 h3 HM).mono ?_
    rintro e w' ⟨rfl, rfl⟩
    go_wp2_with fail
    go_loop [5, 6] (fun c a => ∃ k : Nat, a = .int .i64 ((k : Int) + 1) ∧ (k : Int) + 1 ≤ n ∧ c = .int .i64 ((Lw.liarN n k : Nat) : Int)) (fun _ a => (4097 - intOf a).toNat)
    case atStart => exact ⟨0, rfl, by omega, rfl⟩
    case round =>
      obtain ⟨k, rfl, hk, rfl⟩ := hrel
      have hle := Lw.liarN_le n k
      by_cases hlt : (k : Int) + 1 < n
      · cases hs : Lw.strongB ((k : Int) + 1) n with
        | true =>
          have N := Lib.hid (Lw.liarN_yes hs)
          generalize Lw.liarN n k = L at *
          go_wp2_with (go_at_call 29; refine (ref_Strong _ _ _ (by omega) (by omega)).mono ?_; rintro e w' ⟨rfl, rfl⟩)
          go_round
          case rel => exact ⟨k + 1, by go_num, by omega, by rw [N.out]; go_num⟩
          case measure => simp [intOf]; omega
        | false =>
          have N := Lib.hid (Lw.liarN_no hs)
          generalize Lw.liarN n k = L at *
          go_wp2_with (go_at_call 29; refine (ref_Strong _ _ _ (by omega) (by omega)).mono ?_; rintro e w' ⟨rfl, rfl⟩)
          go_round
          case rel => exact ⟨k + 1, by go_num, by omega, by rw [N.out]⟩
          case measure => simp [intOf]; omega
      · have e : (n - 1).toNat = k := by omega
        have T : ((Lw.liarN n k : Nat) : Int) = C := by rw [← e]; exact HM.out
        clear e
        go_wp2
        go_ret
        exact ⟨by simp, Below.refl _ _⟩
end Go.Proofs.Ytcnifgdlihlkaaa.LW

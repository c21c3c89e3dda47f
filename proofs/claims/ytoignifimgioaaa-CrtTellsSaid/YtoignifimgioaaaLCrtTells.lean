/- The law CrtTells: the one number that fits all rests, or the code. -/
import Derived.Test.YtoignifimgioaaaRst5
set_option linter.unusedVariables false
namespace Go.Proofs.Ytoignifimgioaaa.LW
open Go.RowKit
set_option maxHeartbeats 1000000 in
theorem CrtTells_bad (U : Option Addr) (n c : Nat) (L : List Lw.RestT) (w : World) (R : Lw.Rd w 2 U n (Lw.pairsV .i64 .i64 L)) (h : ¬ Lw.restE L = 0) :
    Calls Try.prog 8 #[.slice U n c] w fun e w' => e = .returned (.bool true) ∧ Below w.heap.size w w' := by
  have S := crt_Solve_bad U n c L w R h
  have CK := fun w R => ref_RestsCheck U n c L w R
  have h1 : (Lw.restE L == 0) = false := by simpa using h
  obtain ⟨E, hE⟩ : ∃ E, Lw.restE L = E := ⟨_, rfl⟩
  rw [hE] at S CK h1
  replace S := Lib.hid S
  replace CK := Lib.hid CK
  have R := Lib.hid R
  clear h hE
  go_enter Try.func8, Try.ntmps8
  go_wp2_with (first | (go_at_call 27; (with_reducible refine (S.out).mono ?_); rintro e w1 ⟨rfl, hb1⟩) | (go_at_call 28; (with_reducible refine (CK.out _ ((R.out.below (Nat.le_refl _) hb1).alloc _)).mono ?_); rintro e w2 ⟨rfl, hb2⟩; obtain ⟨hc2, hf2⟩ := Lw.bcell hb2))
  go_ret
  exact ⟨by simp, by (repeat (first | exact Below.refl _ _ | refine Lw.bt ?_ (by assumption) | refine Lw.balloc ?_ _ | refine Lw.bdrewN ?_ _ | refine Below.drew ?_ | refine Lw.bset ?_ (by first | (simp; done) | (simp; omega) | omega) _))⟩
set_option maxHeartbeats 1000000 in
theorem CrtTells_none (U : Option Addr) (n c : Nat) (L : List Lw.RestT) (w : World) (R : Lw.Rd w 2 U n (Lw.pairsV .i64 .i64 L)) (h : Lw.restE L = 0) (hf : Lw.fitB L = false) :
    Calls Try.prog 8 #[.slice U n c] w fun e w' => e = .returned (.bool true) ∧ Below w.heap.size w w' := by
  have S := Lib.hid (crt_Solve_ok U n c L w R h)
  have CK := fun w R => ref_RestsCheck U n c L w R
  obtain ⟨hn8, ok, _⟩ := Lw.rest_ok h
  have hn : n ≤ 8 := by have := R.1; rw [Lw.pairsV_length] at this; omega
  have FT := fun w R => ref_Fit U n c L w R hn ok
  rw [h] at CK
  rw [hf] at FT
  replace CK := Lib.hid CK
  replace FT := Lib.hid FT
  have R := Lib.hid R
  have HF := Lib.hid hf
  clear h hf ok
  go_enter Try.func8, Try.ntmps8
  go_wp2_with fail
  refine S.out.mono ?_
  rintro e w1 ⟨h, hb1⟩
  rcases h with ⟨h0, _⟩ | ⟨_, rfl⟩
  · rw [HF.out] at h0; cases h0
  go_wp2_with (first | (go_at_call 28; (with_reducible refine (CK.out _ ((R.out.below (Nat.le_refl _) hb1).alloc _)).mono ?_); rintro e w2 ⟨rfl, hb2⟩; obtain ⟨hc2, hf2⟩ := Lw.bcell hb2; have hz2 := hb2.size; simp at hz2; have hy2 : w1.heap.size < w2.heap.size := by omega) | (go_at_call 29; (with_reducible refine (FT.out _ (((R.out.below (Nat.le_refl _) hb1).alloc _).below (Nat.le_refl _) hb2)).mono ?_); rintro e w3 ⟨rfl, hb3⟩; obtain ⟨hc3, hf3⟩ := Lw.bcell hb3))
  go_ret
  exact ⟨by simp, by (repeat (first | exact Below.refl _ _ | refine Lw.bt ?_ (by assumption) | refine Lw.balloc ?_ _ | refine Lw.bdrewN ?_ _ | refine Below.drew ?_ | refine Lw.bset ?_ (by first | (simp; done) | (simp; omega) | omega) _))⟩
set_option maxHeartbeats 4000000 in
theorem CrtTells_ok (U : Option Addr) (n c : Nat) (L : List Lw.RestT) (w : World) (R : Lw.Rd w 2 U n (Lw.pairsV .i64 .i64 L)) (h : Lw.restE L = 0) (hf : Lw.fitB L = true) :
    Calls Try.prog 8 #[.slice U n c] w fun e w' => e = .returned (.bool true) ∧ Below w.heap.size w w' := by
  have S := Lib.hid (crt_Solve_ok U n c L w R h)
  have CK := fun w R => ref_RestsCheck U n c L w R
  obtain ⟨hn8, ok, lb⟩ := Lw.rest_ok h
  have HL := Lib.hid (show L.length = n by have := R.1; rw [Lw.pairsV_length] at this; omega)
  have hn : n ≤ 8 := by have := HL.out; omega
  have FT := fun w R => ref_Fit U n c L w R hn ok
  rw [h] at CK
  rw [hf] at FT
  replace CK := Lib.hid CK
  replace FT := Lib.hid FT
  have R := Lib.hid R
  have HF := Lib.hid hf
  have OK := Lib.hid ok
  have LB := Lib.hid lb
  clear h hf ok lb hn8
  go_enter Try.func8, Try.ntmps8
  go_wp2_with fail
  refine S.out.mono ?_
  rintro e w1 ⟨h, hb1⟩
  rcases h with ⟨_, A, A0, A1, FA, rfl⟩ | ⟨h0, _⟩
  rotate_left 1
  · rw [HF.out] at h0; cases h0
  have FA := Lib.hid FA
  have LE := LB.out n (by have := HL.out; omega)
  have LP := Lw.lcmP_pos (L := L) (fun r hr => (OK.out r hr).1)
  have LT : L.take n = L := List.take_of_length_le (by have := HL.out; omega)
  rw [LT] at LE
  have LT := Lib.hid LT
  obtain ⟨M, hM⟩ : ∃ M, Lw.lcmP L = M := ⟨_, rfl⟩
  rw [hM] at A1 LE LP
  rw [hM]
  have HM := Lib.hid hM
  clear hM
  have B0 := Lib.hid (Lw.blk_new w1 #[.int .i64 A, .int .i64 M] 47)
  go_wp2_with (first | (go_at_call 28; (with_reducible refine (CK.out _ ((R.out.below (Nat.le_refl _) hb1).alloc _)).mono ?_); rintro e w2 ⟨rfl, hb2⟩) | (go_at_call 29; (with_reducible refine (FT.out _ (((R.out.below (Nat.le_refl _) hb1).alloc _).below (Nat.le_refl _) hb2)).mono ?_); rintro e w3 ⟨rfl, hb3⟩))
  have B3 := Lib.hid ((hb3.block w1.heap.size (by have := hb2.size; simp at this; omega)).trans ((hb2.block w1.heap.size (by simp)).trans B0.out))
  have hB3 : Below w.heap.size w w3 := Lw.bt (Lw.bt (Lw.balloc hb1 _) hb2) hb3
  have hz3 : w1.heap.size < w3.heap.size := Lw.blk_lt B3.out
  clear hb1 hb2 hb3 B0 S CK FT
  go_loopw [6, 8, 35] (fun m p i wr => ∃ k : Nat, k ≤ n ∧ i = .int .i64 (k : Int) ∧ m = .int .i64 (Lw.lcmP (L.take k)) ∧ Below w3.heap.size w3 wr) (fun _ _ i _ => n - (intOf i).toNat)
  case atStart => exact ⟨0, by omega, rfl, rfl, Below.refl _ _⟩
  case round =>
    obtain ⟨k, k1, rfl, rfl, hB⟩ := hrel
    have D0 := (hB.block w1.heap.size hz3).trans B3.out
    have l0 := Lw.blk_cell D0 0; have l1 := Lw.blk_cell D0 1
    simp at l0 l1
    have hzb : w1.heap.size < wr.heap.size := Lw.blk_lt D0
    clear D0
    by_cases hlt : k < n
    · have hl : k < L.length := by rw [HL.out]; exact hlt
      obtain ⟨g0, g1⟩ := Lw.pairsV_get (k := .i64) (l := .i64) hl
      obtain ⟨ad, rfl, had, c0, c1⟩ := (R.out.below (Nat.le_refl _) (Lw.bt hB3 hB)).at2 hlt g0 g1
      have mb := OK.out _ (List.getElem_mem hl)
      have e0 := Lw.lcmP_take hl
      have lb0 := LB.out k (by omega)
      have lp0 := Lw.lcmP_pos (L := L.take k) (fun r hr => (OK.out r (List.mem_of_mem_take hr)).1)
      have fz := FA.out _ (List.getElem_mem hl)
      obtain ⟨⟨a, m⟩, hs⟩ : ∃ s, L[k] = s := ⟨_, rfl⟩
      rw [hs] at c0 c1 mb e0 fz
      simp only at c0 c1 mb e0 fz
      obtain ⟨m0, m1, a0, a1⟩ := mb
      obtain ⟨Q, hQ⟩ : ∃ M, Lw.lcmP (L.take k) = M := ⟨_, rfl⟩
      rw [hQ] at lb0 lp0 e0
      rw [hQ]
      have LC := fun w => ref_Lcm Q m w (by omega) (by omega) (by omega) (by omega)
      rw [← e0] at LC
      have MD := fun w => ref_Mod (A - a) m w (by omega) (by omega)
      rw [fz] at MD
      replace MD := Lib.hid MD
      obtain ⟨Q', hQ'⟩ : ∃ M, Lw.lcmP (L.take (k + 1)) = M := ⟨_, rfl⟩
      rw [hQ'] at LC
      replace LC := Lib.hid LC
      have HQ := Lib.hid hQ'
      clear hs g0 g1 e0 hQ hQ' fz
      go_wp2_with (first | (go_at_call 30; (with_reducible refine (LC.out _).mono ?_); rintro e w' ⟨rfl, dd, rfl⟩) | (go_at_call 31; (with_reducible refine (MD.out _).mono ?_); rintro e w' ⟨rfl, rfl⟩))
      go_roundw
      case rel => exact ⟨k + 1, by omega, by go_num, by rw [HQ.out], Lw.bdrewN (Lw.balloc hB _) _⟩
      case measure => simp [intOf]; omega
    · obtain rfl : k = n := by omega
      rw [LT.out, HM.out]
      go_wp2
      go_ret
      exact ⟨by simp, Lw.bt hB3 hB⟩
theorem CrtTells (U : Option Addr) (n c : Nat) (w : World) (h : Lw.IsSl w [Lw.IsI .i64, Lw.IsI .i64] U n c) :
    Calls Try.prog 8 #[.slice U n c] w fun e w' => e = .returned (.bool true) ∧ Below w.heap.size w w' := by
  obtain ⟨L0, h1, h2, R⟩ := h.list (by simp)
  obtain ⟨L, hL, _⟩ := Lw.list2 h2
  have e : L0.flatten = Lw.pairsV .i64 .i64 L := by rw [hL]; unfold Lw.pairsV; rw [List.flatMap_def]
  rw [e] at R
  have R : Lw.Rd w 2 U n (Lw.pairsV .i64 .i64 L) := R
  by_cases h0 : Lw.restE L = 0
  · cases hf : Lw.fitB L with
    | true => exact CrtTells_ok U n c L w R h0 hf
    | false => exact CrtTells_none U n c L w R h0 hf
  · exact CrtTells_bad U n c L w R h0
end Go.Proofs.Ytoignifimgioaaa.LW

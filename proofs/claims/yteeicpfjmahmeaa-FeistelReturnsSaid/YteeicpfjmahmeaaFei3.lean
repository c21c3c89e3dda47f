/- feistel.seal, feistel.Seal, the reference's Seal. -/
import Derived.Test.YteeicpfjmahmeaaFei2
set_option linter.unusedVariables false
set_option linter.unusedSimpArgs false
namespace Go.Proofs.Yteeicpfjmahmeaa
open Go.RowKit
set_option maxHeartbeats 2000000 in
theorem feistel_seal (A : Option Addr) (n c : Nat) (T : List Lw.TRow) (y : Int) (w : World) (h : Lw.Tab .i64 w A n T) (hR : Lw.Rounds T) (hn : n ≤ 64) (y0 : 0 ≤ y) (y1 : y ≤ 255) :
    Calls Try.prog 45 #[.slice A n c, .int .i64 y] w fun e w' => e = .returned (.int .i64 (Lw.num (Lw.fseal T (Lw.halves y)))) ∧ Below w.heap.size w w' := by
  have H := Lib.hid h
  have RO := Lib.hid hR
  have HH := Lib.hid (fun k => Lw.fseal_half (hR.take k) (Lw.halves_half (x := y) (by omega)))
  have FSq := Lib.hid (fun k hk => Lw.fseal_take (Z := T) (k := k) hk (Lw.halves y))
  clear h hR
  have P0 : Hid (Value.int .i64 (y / 16) = .int .i64 ((Lw.halves y).1 : Int) ∧ Value.int .i64 (y % 16) = .int .i64 ((Lw.halves y).2 : Int)) := by unfold Lw.halves; refine ⟨?_, ?_⟩ <;> congr 1 <;> simp <;> omega
  go_enter Try.func45, Try.ntmps45
  go_wp2
  go_loopw [5, 6, 8, 15] (fun l r q i wr => ∃ k : Nat, i = .int .i64 (k : Int) ∧ k ≤ n ∧ l = .int .i64 ((Lw.fseal (T.take k) (Lw.halves y)).1 : Int) ∧ r = .int .i64 ((Lw.fseal (T.take k) (Lw.halves y)).2 : Int) ∧ Below w.heap.size w wr) (fun _ _ _ i _ => n - (intOf i).toNat)
  case atStart => exact ⟨0, rfl, by omega, P0.out.1, P0.out.2, Below.refl _ _⟩
  case round =>
    obtain ⟨k, rfl, k1, rfl, rfl, hB⟩ := hrel
    by_cases hlt : k < n
    · obtain ⟨hl, ad, rfl, had, hcell, ok⟩ := (H.out.below (Nat.le_refl _) hB).at_ hlt
      have F1 := FSq.out k hl
      have hh := HH.out k
      obtain ⟨hq1, hq2⟩ := RO.out _ (List.getElem_mem hl)
      obtain ⟨⟨qA, qn, qc, qzs⟩, hr⟩ : ∃ r, T[k] = r := ⟨_, rfl⟩
      rw [hr] at hcell ok F1 hq1 hq2
      clear hr
      simp only at hcell F1 hq1 hq2
      have hqn : qn = 16 := by have := ok.len; simp only at this; omega
      subst hqn
      obtain ⟨⟨l, r⟩, hp⟩ : ∃ p, Lw.fseal (T.take k) (Lw.halves y) = p := ⟨_, rfl⟩
      rw [hp] at F1 hh
      rw [hp]
      obtain ⟨l1, r1⟩ := hh
      simp only at l1 r1
      have hrz : r < qzs.length := by omega
      obtain ⟨qd, rfl, _, hqc⟩ := (show Lw.Rd wr 1 qA 16 (Lw.intsV .i64 qzs) from ok.1).at1 r1 (Lw.intsV_get hrz)
      have zb := hq2 _ (List.getElem_mem hrz)
      have fz : Lw.fAt qzs r = (qzs[r]).toNat := by unfold Lw.fAt; rw [List.getD_eq_getElem?_getD, List.getElem?_eq_getElem hrz]; rfl
      have F2 : Lw.fseal (T.take (k + 1)) (Lw.halves y) = (r, l ^^^ (qzs[r]).toNat) := by rw [F1]; show (r, l ^^^ Lw.fAt qzs r) = _; rw [fz]
      obtain ⟨z, hz⟩ : ∃ z, qzs[r] = z := ⟨_, rfl⟩
      rw [hz] at hqc zb F2
      obtain ⟨zn, rfl⟩ := Int.eq_ofNat_of_zero_le zb.1
      rw [Int.toNat_natCast] at F2
      have F2 := Lib.hid F2
      have XO := Lw.i64_xor_nat l zn (by omega) (by omega)
      clear hz fz F1 hq1 hq2 ok hrz hp hl
      go_wp2_with fail
      go_quiet (fail)
      go_wp2
      go_roundw
      case rel => exact ⟨k + 1, by go_num, by omega, by rw [F2.out], by rw [F2.out], Lw.bdrewN hB _⟩
      case measure => simp [intOf]; omega
    · have hk : T.take k = T := List.take_of_length_le (by rw [H.out.len]; omega)
      have hh := HH.out k
      rw [hk] at hh
      rw [hk]
      have E : Hid (Lw.num (Lw.fseal T (Lw.halves y)) = ((Lw.fseal T (Lw.halves y)).1 : Int) * 16 + ((Lw.fseal T (Lw.halves y)).2 : Int)) := by unfold Lw.num Hid; omega
      obtain ⟨p, hp⟩ : ∃ p, Lw.fseal T (Lw.halves y) = p := ⟨_, rfl⟩
      rw [hp] at E hh
      rw [hp]
      obtain ⟨l1, r1⟩ := hh
      clear hk
      go_wp2
      go_ret
      exact ⟨Lw.ret_int (by rw [hp]; exact E.out.symm), hB⟩
theorem feistel_Seal_bad (A : Option Addr) (n c : Nat) (T : List Lw.TRow) (y : Int) (w : World) (h : Lw.Tab .i64 w A n T) (h0 : ¬ Lw.feiE T y = 0) :
    Calls Try.prog 20 #[.slice A n c, .int .i64 y] w fun e w' => e = .returned (.tuple #[.int .i64 0, .int .i64 (Lw.feiE T y)]) ∧ w = w' := by
  have X := Lib.hid (feistel_wrong A n c T y w h)
  have h1 : (Lw.feiE T y == 0) = false := by simpa using h0
  clear h h0
  go_enter Try.func20, Try.ntmps20
  go_wp2_with (go_at_call 44; (with_reducible refine (X.out).mono ?_); rintro e w1 ⟨rfl, rfl⟩)
  go_ret2
  exact ⟨rfl, rfl⟩
theorem feistel_Seal_ok (A : Option Addr) (n c : Nat) (T : List Lw.TRow) (y : Int) (w : World) (h : Lw.Tab .i64 w A n T) (h0 : Lw.feiE T y = 0) :
    Calls Try.prog 20 #[.slice A n c, .int .i64 y] w fun e w' => e = .returned (.tuple #[.int .i64 (Lw.num (Lw.fseal T (Lw.halves y))), .int .i64 0]) ∧ Below w.heap.size w w' := by
  have X := feistel_wrong A n c T y w h
  rw [h0] at X
  replace X := Lib.hid X
  obtain ⟨hR, hn, y0, y1⟩ := Lw.fei_ok h h0
  have Y := Lib.hid (feistel_seal A n c T y w h hR hn y0 y1)
  clear h h0 hR
  go_enter Try.func20, Try.ntmps20
  go_wp2_with (first | (go_at_call 44; (with_reducible refine (X.out).mono ?_); rintro e w1 ⟨rfl, rfl⟩) | (go_at_call 45; (with_reducible refine (Y.out).mono ?_); rintro e w1 ⟨rfl, hb1⟩))
  go_ret2
  exact ⟨rfl, hb1⟩
set_option maxHeartbeats 2000000 in
theorem ref_Seal (A : Option Addr) (n c : Nat) (T : List Lw.TRow) (y : Int) (w : World) (h : Lw.Tab .i64 w A n T) (hR : Lw.Rounds T) (hn : n ≤ 64) (y0 : 0 ≤ y) (y1 : y ≤ 255) :
    Calls Try.prog 22 #[.slice A n c, .int .i64 y] w fun e w' => e = .returned (.int .i64 (Lw.num (Lw.fseal T (Lw.halves y)))) ∧ w = w' := by
  have H := Lib.hid h
  have RO := Lib.hid hR
  have HH := Lib.hid (fun k => Lw.fseal_half (hR.take k) (Lw.halves_half (x := y) (by omega)))
  have FSq := Lib.hid (fun k hk => Lw.fseal_take (Z := T) (k := k) hk (Lw.halves y))
  clear h hR
  have P0 : Hid (Value.int .i64 y = .int .i64 (Lw.num (Lw.halves y))) := by rw [Lw.num_halves y0]; exact rfl
  have XR := Lib.hid (fun a b w ha hb => ref_xor a b w ha hb)
  go_enter Try.func22, Try.ntmps22
  go_wp2
  go_loop [1, 6, 9] (fun x q i => ∃ k : Nat, i = .int .i64 (k : Int) ∧ k ≤ n ∧ x = .int .i64 (Lw.num (Lw.fseal (T.take k) (Lw.halves y)))) (fun _ _ i => n - (intOf i).toNat)
  case atStart => exact ⟨0, rfl, by omega, P0.out⟩
  case round =>
    obtain ⟨k, rfl, k1, rfl⟩ := hrel
    by_cases hlt : k < n
    · obtain ⟨hl, ad, rfl, had, hcell, ok⟩ := H.out.at_ hlt
      have F1 := FSq.out k hl
      have hh := HH.out k
      obtain ⟨hq1, hq2⟩ := RO.out _ (List.getElem_mem hl)
      obtain ⟨⟨qA, qn, qc, qzs⟩, hr⟩ : ∃ r, T[k] = r := ⟨_, rfl⟩
      rw [hr] at hcell ok F1 hq1 hq2
      clear hr
      simp only at hcell F1 hq1 hq2
      have hqn : qn = 16 := by have := ok.len; simp only at this; omega
      subst hqn
      obtain ⟨⟨l, r⟩, hp⟩ : ∃ p, Lw.fseal (T.take k) (Lw.halves y) = p := ⟨_, rfl⟩
      rw [hp] at F1 hh
      rw [hp]
      obtain ⟨l1, r1⟩ := hh
      simp only at l1 r1
      have hrz : r < qzs.length := by omega
      obtain ⟨qd, rfl, _, hqc⟩ := (show Lw.Rd w 1 qA 16 (Lw.intsV .i64 qzs) from ok.1).at1 r1 (Lw.intsV_get hrz)
      have zb := hq2 _ (List.getElem_mem hrz)
      have fz : Lw.fAt qzs r = (qzs[r]).toNat := by unfold Lw.fAt; rw [List.getD_eq_getElem?_getD, List.getElem?_eq_getElem hrz]; rfl
      have F2 : Lw.fseal (T.take (k + 1)) (Lw.halves y) = (r, l ^^^ (qzs[r]).toNat) := by rw [F1]; show (r, l ^^^ Lw.fAt qzs r) = _; rw [fz]
      obtain ⟨z, hz⟩ : ∃ z, qzs[r] = z := ⟨_, rfl⟩
      rw [hz] at hqc zb F2
      obtain ⟨zn, rfl⟩ := Int.eq_ofNat_of_zero_le zb.1
      rw [Int.toNat_natCast] at F2
      have F2 : Hid (Lw.num (Lw.fseal (T.take (k + 1)) (Lw.halves y)) = (r : Int) * 16 + ((l ^^^ zn : Nat) : Int)) := by rw [F2]; unfold Lw.num Hid; simp only; omega
      have xb : l ^^^ zn < 16 := Nat.xor_lt_two_pow (n := 4) l1 (by omega)
      have NM : Lw.num (l, r) = (l : Int) * 16 + (r : Int) := by unfold Lw.num; simp only; omega
      have e1 : ((l : Int) * 16 + (r : Int)).tdiv 16 = l := by rw [Int.tdiv_eq_ediv_of_nonneg (by omega)]; omega
      have e2 : ((l : Int) * 16 + (r : Int)).tmod 16 = r := by rw [Int.tmod_eq_emod_of_nonneg (by omega)]; omega
      have XC := Lib.hid (XR.out l zn w (by omega) (by omega))
      rw [NM]
      clear hz fz F1 hq1 hq2 ok hrz hp hl NM
      go_wp2_with (go_at_call 46; (with_reducible refine (XC.out).mono ?_); rintro e w1 ⟨rfl, rfl⟩)
      go_round
      case rel => exact ⟨k + 1, by go_num, by omega, by rw [F2.out]⟩
      case measure => simp [intOf]; omega
    · have hk : T.take k = T := List.take_of_length_le (by rw [H.out.len]; omega)
      rw [hk]
      clear hk
      go_wp2
      go_ret
      exact ⟨rfl, rfl⟩
end Go.Proofs.Yteeicpfjmahmeaa

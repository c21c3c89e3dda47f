/- pad.Check: what is wrong with a table. -/
import Derived.Test.YteeicpfjmahmeaaPad2
namespace Lw
open Go Go.RowKit
def firstN (T : List TRow) : Nat := (T.head?.map TRow.n).getD 0
/-- what is wrong with a cipher -/
def cipE (T : List TRow) : Int :=
  if 16 < T.length then 1 else if T.any (fun r => decide (Big 16 r.n)) then 1 else if firstN T = 0 then 5 else if T.any (fun r => decide (Odd (firstN T) r.n)) then 4 else if T.any (fun r => outR 4096 r.zs) then 2 else 0
theorem firstN_get {T : List TRow} (h : 0 < T.length) : firstN T = T[0].n := by
  cases T with
  | nil => simp at h
  | cons a T => rfl
theorem odd_no {T : List TRow} {m : Nat} (h : T.any (fun r => decide (Odd m r.n)) = false) : ∀ r ∈ T, r.n = m := by
  intro r hr
  have := List.any_eq_false.1 h r hr
  rw [decide_eq_true_eq] at this
  unfold Odd at this
  omega
theorem big_no {T : List TRow} {m : Nat} (h : T.any (fun r => decide (Big m r.n)) = false) : ∀ r ∈ T, r.n ≤ m := by
  intro r hr
  have := List.any_eq_false.1 h r hr
  rw [decide_eq_true_eq] at this
  unfold Big at this
  omega
theorem cip_len {T : List TRow} (h : 16 < T.length) : cipE T = 1 := if_pos h
theorem cip_big {T : List TRow} (h : ¬ 16 < T.length) (h1 : T.any (fun r => decide (Big 16 r.n)) = true) : cipE T = 1 := by unfold cipE; rw [if_neg h, if_pos h1]
theorem cip_none {T : List TRow} (h : ¬ 16 < T.length) (h1 : T.any (fun r => decide (Big 16 r.n)) = false) (h2 : firstN T = 0) : cipE T = 5 := by unfold cipE; rw [if_neg h, if_neg (by simp [h1]), if_pos h2]
theorem cip_odd {T : List TRow} (h : ¬ 16 < T.length) (h1 : T.any (fun r => decide (Big 16 r.n)) = false) (h2 : ¬ firstN T = 0) (h3 : T.any (fun r => decide (Odd (firstN T) r.n)) = true) : cipE T = 4 := by unfold cipE; rw [if_neg h, if_neg (by simp [h1]), if_neg h2, if_pos h3]
theorem cip_out {T : List TRow} (h : ¬ 16 < T.length) (h1 : T.any (fun r => decide (Big 16 r.n)) = false) (h2 : ¬ firstN T = 0) (h3 : T.any (fun r => decide (Odd (firstN T) r.n)) = false) : cipE T = if T.any (fun r => outR 4096 r.zs) = true then 2 else 0 := by unfold cipE; rw [if_neg h, if_neg (by simp [h1]), if_neg h2, if_neg (by simp [h3])]
end Lw
set_option linter.unusedVariables false
set_option linter.unusedSimpArgs false
namespace Go.Proofs.Yteeicpfjmahmeaa
open Go.RowKit
set_option maxHeartbeats 2000000 in
theorem pad_Check (A : Option Addr) (n c : Nat) (T : List Lw.TRow) (w : World) (h : Lw.Tab .i64 w A n T) :
    Calls Try.prog 18 #[.slice A n c] w fun e w' => e = .returned (.int .i64 (Lw.cipE T)) ∧ Below w.heap.size w w' := by
  have hl := h.len
  by_cases h1 : 16 < n
  · have E := Lib.hid (Lw.cip_len (T := T) (by omega))
    have i1 : (16 : Int) < (n : Int) := by omega
    clear h hl
    go_enter Try.func18, Try.ntmps18
    go_wp2
    go_ret
    exact ⟨Lw.ret_int E.out.symm, by (repeat (first | exact Below.refl _ _ | refine Lw.bt ?_ (by assumption) | refine Lw.balloc ?_ _ | refine Lw.bdrewN ?_ _ | refine Below.drew ?_ | refine Lw.bset ?_ (by first | (simp; done) | (simp; omega) | omega) _))⟩
  have i1 : ¬ (16 : Int) < (n : Int) := by omega
  have hW := h.below (Nat.le_refl _) (Lw.balloc (Below.refl w.heap.size w) (.cells #[.slice A n c] 32))
  have X1 := Lib.hid (con_pad1 A n c T _ hW (by omega))
  by_cases h2 : T.any (fun r => decide (Lw.Big 16 r.n)) = true
  · have E := Lib.hid (Lw.cip_big (T := T) (by omega) h2)
    rw [h2] at X1
    clear h hl h2 hW
    go_enter Try.func18, Try.ntmps18
    go_wp2_with (go_at_call 39; (with_reducible refine (X1.out).mono ?_); rintro e w1 ⟨rfl, rfl⟩)
    go_ret
    exact ⟨Lw.ret_int E.out.symm, by (repeat (first | exact Below.refl _ _ | refine Lw.bt ?_ (by assumption) | refine Lw.balloc ?_ _ | refine Lw.bdrewN ?_ _ | refine Below.drew ?_ | refine Lw.bset ?_ (by first | (simp; done) | (simp; omega) | omega) _))⟩
  have h2 : T.any (fun r => decide (Lw.Big 16 r.n)) = false := by simpa using h2
  rw [h2] at X1
  by_cases hn0 : n = 0
  · have E := Lib.hid (Lw.cip_none (T := T) (by omega) h2 (by cases T; rfl; simp at hl; omega))
    subst hn0
    clear h hl h2 hW
    go_enter Try.func18, Try.ntmps18
    go_wp2_with (go_at_call 39; (with_reducible refine (X1.out).mono ?_); rintro e w1 ⟨rfl, rfl⟩)
    go_ret
    exact ⟨Lw.ret_int E.out.symm, by (repeat (first | exact Below.refl _ _ | refine Lw.bt ?_ (by assumption) | refine Lw.balloc ?_ _ | refine Lw.bdrewN ?_ _ | refine Below.drew ?_ | refine Lw.bset ?_ (by first | (simp; done) | (simp; omega) | omega) _))⟩
  have i2 : ((n : Int) == 0) = false := by simp; omega
  have i3 : (0 : Int) < (n : Int) := by omega
  obtain ⟨hl0, ad, rfl, had, hc0, ok0⟩ := h.at_ (k := 0) (by omega)
  have hF := Lw.firstN_get hl0
  obtain ⟨⟨rA, rn, rc, rzs⟩, hr⟩ : ∃ r, T[0] = r := ⟨_, rfl⟩
  rw [hr] at hc0 ok0 hF
  simp only [Lw.add_zero'] at hc0 hF
  clear hr
  by_cases h3 : rn = 0
  · have E := Lib.hid (Lw.cip_none (T := T) (by omega) h2 (by rw [hF, h3]))
    subst h3
    clear h hl h2 hW ok0 hF hl0
    go_enter Try.func18, Try.ntmps18
    go_wp2_with (go_at_call 39; (with_reducible refine (X1.out).mono ?_); rintro e w1 ⟨rfl, rfl⟩)
    go_ret
    exact ⟨Lw.ret_int E.out.symm, by (repeat (first | exact Below.refl _ _ | refine Lw.bt ?_ (by assumption) | refine Lw.balloc ?_ _ | refine Lw.bdrewN ?_ _ | refine Below.drew ?_ | refine Lw.bset ?_ (by first | (simp; done) | (simp; omega) | omega) _))⟩
  have i4 : ((rn : Int) == 0) = false := by simp; omega
  have X2 := Lib.hid (con_pad2 n c T _ w.heap.size rn rA rc ad hW (by omega) (by simp) (by have := (Lw.balloc (Below.refl w.heap.size w) (.cells #[.slice (some ad) n c] 32)).cell (p := ad) had; exact this.trans hc0) (by omega))
  by_cases h4 : T.any (fun r => decide (Lw.Odd rn r.n)) = true
  · have E := Lib.hid (Lw.cip_odd (T := T) (by omega) h2 (by omega) (by rw [hF]; exact h4))
    rw [h4] at X2
    clear h hl h2 hW ok0 hF hl0 h4
    go_enter Try.func18, Try.ntmps18
    go_wp2_with (first | (go_at_call 39; (with_reducible refine (X1.out).mono ?_); rintro e w1 ⟨rfl, rfl⟩) | (go_at_call 39; (with_reducible refine (X2.out).mono ?_); rintro e w1 ⟨rfl, rfl⟩))
    go_ret
    exact ⟨Lw.ret_int E.out.symm, by (repeat (first | exact Below.refl _ _ | refine Lw.bt ?_ (by assumption) | refine Lw.balloc ?_ _ | refine Lw.bdrewN ?_ _ | refine Below.drew ?_ | refine Lw.bset ?_ (by first | (simp; done) | (simp; omega) | omega) _))⟩
  have h4 : T.any (fun r => decide (Lw.Odd rn r.n)) = false := by simpa using h4
  rw [h4] at X2
  have E := Lib.hid (Lw.cip_out (T := T) (by omega) h2 (by omega) (by rw [hF]; exact h4))
  have ON := Lib.hid (Lw.odd_no h4)
  have BN := Lib.hid (Lw.big_no h2)
  have H := Lib.hid hW
  obtain ⟨W, hWe⟩ : ∃ W, w.alloc (.cells #[.slice (some ad) n c] 32) = W := ⟨_, rfl⟩
  have hBW : Below w.heap.size w W := by rw [← hWe]; exact Lw.balloc (Below.refl _ _) _
  have HWe := Lib.hid hWe
  rw [HWe.out] at H
  clear h hl h2 hW ok0 hF hl0 h4 hWe
  go_enter Try.func18, Try.ntmps18
  go_wp2_with (first | (go_at_call 39; (with_reducible refine (X1.out).mono ?_); rintro e w1 ⟨rfl, rfl⟩) | (go_at_call 39; (with_reducible refine (X2.out).mono ?_); rintro e w1 ⟨rfl, rfl⟩))
  (try rw [HWe.out])
  clear X1 X2 HWe hc0
  go_loop [4, 27] (fun r i => ∃ k : Nat, i = .int .i64 (k : Int) ∧ k ≤ n ∧ Hid ((T.take k).any (fun r => Lw.outR 4096 r.zs) = false)) (fun _ i => n - (intOf i).toNat)
  case atStart => exact ⟨0, rfl, by omega, rfl⟩
  case round =>
    obtain ⟨k, rfl, k1, TK⟩ := hrel
    by_cases hlt : k < n
    · obtain ⟨hl, ad', hAd, _, hcell, ok⟩ := H.out.at_ hlt
      injection hAd with hAd
      subst hAd
      have N := Lib.hid (Lw.any_take (p := fun r : Lw.TRow => Lw.outR 4096 r.zs) hl TK.out)
      have D := Lib.hid (Lw.any_at (p := fun r : Lw.TRow => Lw.outR 4096 r.zs) hl)
      have n1 := ON.out _ (List.getElem_mem hl)
      have n2 := BN.out _ (List.getElem_mem hl)
      obtain ⟨⟨qA, qn, qc, qzs⟩, hr⟩ : ∃ r, T[k] = r := ⟨_, rfl⟩
      rw [hr] at hcell N D n1 n2 ok
      clear hr
      simp only at hcell n1 n2
      subst n1
      have MI := Lib.hid (slices_Min qA qn qc qzs W ok (by omega) (by omega))
      have MA := Lib.hid (slices_Max qA qn qc qzs W ok (by omega) (by omega))
      clear ok i4
      have hout := Bool.eq_false_or_eq_true (Lw.outR 4096 qzs)
      rcases hout with ho | ho
      · have E2 : Hid (Lw.cipE T = 2) := by rw [E.out, if_pos (D.out ho)]; exact rfl
        have CN := Lib.hid (show ∀ a b : Int, (∀ z ∈ qzs, a ≤ z) → ¬ a < 0 → (∀ z ∈ qzs, z ≤ b) → ¬ 4096 ≤ b → False from fun (a b : Int) h1 h2 h3 h4 => absurd ho (by rw [Lw.outR_no (m := 4096) (zs := qzs) (a := a) (b := b) h1 h2 h3 h4]; simp))
        clear N D E ho
        go_wp2_with (first | (go_at_call 42; (with_reducible refine (MI.out).mono ?_); rintro e w1 ⟨a, rfl, rfl, ma, la⟩; replace ma := Lib.hid ma; replace la := Lib.hid la) | (go_at_call 43; (with_reducible refine (MA.out).mono ?_); rintro e w1 ⟨b, rfl, rfl, mb, lb⟩; replace mb := Lib.hid mb; replace lb := Lib.hid lb))
        all_goals first
          | (go_ret; exact ⟨Lw.ret_int E2.out.symm, by first | exact hBW | (repeat (first | exact Below.refl _ _ | refine Lw.bt ?_ (by assumption) | refine Lw.balloc ?_ _ | refine Lw.bdrewN ?_ _ | refine Below.drew ?_ | refine Lw.bset ?_ (by first | (simp; done) | (simp; omega) | omega) _))⟩)
          | (exfalso; exact CN.out _ _ la.out (by omega) lb.out (by omega))
      · have N1 := Lib.hid (N.out ho)
        have CM := Lib.hid (show ∀ a : Int, a ∈ qzs → a < 0 → False from fun (a : Int) h h0 => absurd (Lw.outR_min (m := 4096) (zs := qzs) (a := a) h h0) (by rw [ho]; simp))
        have CX := Lib.hid (show ∀ a : Int, a ∈ qzs → 4096 ≤ a → False from fun (a : Int) h h0 => absurd (Lw.outR_max (m := 4096) (zs := qzs) (a := a) h h0) (by rw [ho]; simp))
        clear N D E ho
        go_wp2_with (first | (go_at_call 42; (with_reducible refine (MI.out).mono ?_); rintro e w1 ⟨a, rfl, rfl, ma, la⟩; replace ma := Lib.hid ma; replace la := Lib.hid la) | (go_at_call 43; (with_reducible refine (MA.out).mono ?_); rintro e w1 ⟨b, rfl, rfl, mb, lb⟩; replace mb := Lib.hid mb; replace lb := Lib.hid lb))
        all_goals first
          | (exfalso; exact CM.out _ ma.out (by omega))
          | (exfalso; exact CX.out _ mb.out (by omega))
          | skip
        go_round
        case rel => exact ⟨k + 1, by go_num, by omega, N1⟩
        case measure => simp [intOf]; omega
    · have hk : T.take k = T := List.take_of_length_le (by rw [H.out.len]; omega)
      have E0 : Hid (Lw.cipE T = 0) := by have := TK.out; rw [hk] at this; rw [E.out, if_neg (by simp [this])]; exact rfl
      clear hk
      go_wp2
      go_ret
      exact ⟨Lw.ret_int E0.out.symm, by first | exact hBW | (repeat (first | exact Below.refl _ _ | refine Lw.bt ?_ (by assumption) | refine Lw.balloc ?_ _ | refine Lw.bdrewN ?_ _ | refine Below.drew ?_ | refine Lw.bset ?_ (by first | (simp; done) | (simp; omega) | omega) _))⟩
end Go.Proofs.Yteeicpfjmahmeaa

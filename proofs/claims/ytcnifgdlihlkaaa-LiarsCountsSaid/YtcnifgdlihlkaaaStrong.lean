/- Contracts of liars.strong and of the reference's Strong. -/
import Derived.Test.YtcnifgdlihlkaaaLiar
import Derived.Test.YtcnifgdlihlkaaaFac
namespace Lw
/-- is one of the numbers that come by squaring n - 1? -/
def strongL (n : Int) : Int → Nat → Bool
  | _, 0 => false
  | x, s + 1 => if x = n - 1 then true else strongL n (x * x % n) s
def strongB (a n : Int) : Bool :=
  if pw a ((strip 2 (n - 1).toNat : Nat) : Int) n = 1 then true else strongL n (pw a ((strip 2 (n - 1).toNat : Nat) : Int) n) (vp 2 (n - 1).toNat)
theorem strongL_yes {n x : Int} {s : Nat} (h : x = n - 1) : strongL n x (s + 1) = true := by unfold strongL; exact if_pos h
theorem strongL_no {n x : Int} {s : Nat} (h : ¬ x = n - 1) : strongL n x (s + 1) = strongL n (x * x % n) s := by conv => lhs; unfold strongL; rw [if_neg h]
end Lw
set_option linter.unusedVariables false
set_option linter.unusedSimpArgs false
namespace Go.Proofs.Ytcnifgdlihlkaaa
open Go.RowKit
set_option maxHeartbeats 1000000 in
theorem liars_strong (a n : Int) (w : World) (h1 : 3 ≤ n) (h2 : n ≤ 1048576) :
    Calls Try.prog 56 #[.int .i64 a, .int .i64 n] w fun e w' => e = .returned (.bool (Lw.strongB a n)) ∧ w = w' := by
  obtain ⟨m, hm⟩ : ∃ m : Nat, n = (m : Int) + 1 := ⟨(n - 1).toNat, by omega⟩
  subst hm
  have E : Hid (Lw.strongB a ((m : Int) + 1) = if Lw.pw a ((Lw.strip 2 m : Nat) : Int) ((m : Int) + 1) = 1 then true else Lw.strongL ((m : Int) + 1) (Lw.pw a ((Lw.strip 2 m : Nat) : Int) ((m : Int) + 1)) (Lw.vp 2 m)) := by
    unfold Lw.strongB; rw [show ((m : Int) + 1 - 1).toNat = m from by omega]; rfl
  go_enter Try.func56, Try.ntmps56
  go_wp2
  go_loop [5, 6] (fun d s => ∃ e j : Nat, d = .int .i64 (e : Int) ∧ s = .int .i64 (j : Int) ∧ 1 ≤ e ∧ e ≤ m ∧ j + e ≤ 1048577 ∧ Hid (Lw.strip 2 m = Lw.strip 2 e ∧ Lw.vp 2 m = j + Lw.vp 2 e)) (fun d _ => (intOf d).toNat)
  case atStart => exact ⟨m, 0, by go_num, rfl, by omega, by omega, by omega, rfl, by simp⟩
  case round =>
    obtain ⟨e, j, rfl, rfl, e1, e2, e3, H⟩ := hrel
    by_cases he : e % 2 = 0
    · have hb : ((e : Int) % 2 == 0) = true := by simp; omega
      have N : Hid (Lw.strip 2 m = Lw.strip 2 (e / 2) ∧ Lw.vp 2 m = j + 1 + Lw.vp 2 (e / 2)) := by
        obtain ⟨h3, h4⟩ := H.out
        exact ⟨by rw [h3, Lw.strip_yes (by omega) (by omega) he], by rw [h4, Lw.vp_yes (by omega) (by omega) he]; omega⟩
      clear H
      go_wp2
      go_round
      case rel => exact ⟨e / 2, j + 1, by go_num, by go_num, by omega, by omega, by omega, N⟩
      case measure => simp [intOf]; omega
    · have hb : ((e : Int) % 2 == 0) = false := by simp; omega
      have N : Hid (Lw.strip 2 m = e ∧ Lw.vp 2 m = j) := by
        obtain ⟨h3, h4⟩ := H.out
        rw [Lw.strip_no he] at h3; rw [Lw.vp_no he] at h4
        exact ⟨h3, by omega⟩
      have E2 : Hid (Lw.strongB a ((m : Int) + 1) = if Lw.pw a (e : Int) ((m : Int) + 1) = 1 then true else Lw.strongL ((m : Int) + 1) (Lw.pw a (e : Int) ((m : Int) + 1)) j) := by
        show _ = _; rw [E.out, N.out.1, N.out.2]
      obtain ⟨p1, p2⟩ := Lw.pw_bd a (e : Int) ((m : Int) + 1) (by omega)
      clear H E N
      by_cases hx : Lw.pw a (e : Int) ((m : Int) + 1) = 1
      · have hx1 : (Lw.pw a (e : Int) ((m : Int) + 1) == 1) = true := by simpa using hx
        have E3 : Hid (Lw.strongB a ((m : Int) + 1) = true) := by show _ = _; rw [E2.out, if_pos hx]
        clear hx E2
        go_wp2_with (go_at_call 65; refine (power_Of _ _ _ _ (by omega) (by omega) (by omega) (by omega)).mono ?_; rintro e w' ⟨rfl, rfl⟩)
        go_ret
        rw [E3.out]; exact ⟨rfl, rfl⟩
      · have hx1 : (Lw.pw a (e : Int) ((m : Int) + 1) == 1) = false := by simpa using hx
        have E3 : Hid (Lw.strongB a ((m : Int) + 1) = Lw.strongL ((m : Int) + 1) (Lw.pw a (e : Int) ((m : Int) + 1)) j) := by show _ = _; rw [E2.out, if_neg hx]
        clear hx E2
        go_wp2_with (go_at_call 65; refine (power_Of _ _ _ _ (by omega) (by omega) (by omega) (by omega)).mono ?_; rintro e w' ⟨rfl, rfl⟩)
        go_loop [7, 24] (fun x i => ∃ (x1 : Int) (k : Nat), x = .int .i64 x1 ∧ i = .int .i64 (k : Int) ∧ 0 ≤ x1 ∧ x1 < (m : Int) + 1 ∧ k ≤ j ∧ Hid (Lw.strongB a ((m : Int) + 1) = Lw.strongL ((m : Int) + 1) x1 (j - k))) (fun _ i => j - (intOf i).toNat)
        case atStart => exact ⟨_, 0, rfl, rfl, p1, p2, by omega, E3⟩
        case round =>
          obtain ⟨x1, k, rfl, rfl, x2, x3, hk, G⟩ := hrel
          obtain ⟨q1, q2⟩ := Lw.mul_bd' x1 x1 1048576 x2 (by omega) x2 (by omega)
          have hm0 : ¬ (m : Int) + 1 = 0 := by omega
          by_cases hlt : k < j
          · by_cases hxm : x1 = (m : Int)
            · have T : Hid (Lw.strongB a ((m : Int) + 1) = true) := by
                show _ = _
                rw [G.out, show j - k = (j - k - 1) + 1 from by omega, Lw.strongL_yes (by omega)]
              subst hxm
              clear G E3
              go_wp2
              go_ret
              rw [T.out]; exact ⟨by simp, rfl⟩
            · have hb2 : (x1 == (m : Int)) = false := by simpa using hxm
              have T : Hid (Lw.strongB a ((m : Int) + 1) = Lw.strongL ((m : Int) + 1) (x1 * x1 % ((m : Int) + 1)) (j - (k + 1))) := by
                show _ = _
                rw [G.out, show j - k = (j - k - 1) + 1 from by omega, Lw.strongL_no (by omega), show j - k - 1 = j - (k + 1) from by omega]
              obtain ⟨r1, r2⟩ := Lw.emod_bd (x1 * x1) ((m : Int) + 1) (by omega)
              clear hxm G E3
              go_wp2
              go_round
              case rel => exact ⟨_, k + 1, rfl, by go_num, r1, r2, by omega, T⟩
              case measure => simp [intOf]; omega
          · have T : Hid (Lw.strongB a ((m : Int) + 1) = false) := by
              show _ = _
              rw [G.out, show j - k = 0 from by omega]; rfl
            clear G E3
            go_wp2
            go_ret
            rw [T.out]; exact ⟨rfl, rfl⟩
set_option maxHeartbeats 1000000 in
theorem ref_Strong (a n : Int) (w : World) (h1 : 3 ≤ n) (h2 : n ≤ 1048576) :
    Calls Try.prog 29 #[.int .i64 a, .int .i64 n] w fun e w' => e = .returned (.bool (Lw.strongB a n)) ∧ w = w' := by
  obtain ⟨m, hm⟩ : ∃ m : Nat, n = (m : Int) + 1 := ⟨(n - 1).toNat, by omega⟩
  subst hm
  have E : Hid (Lw.strongB a ((m : Int) + 1) = if Lw.pw a ((Lw.strip 2 m : Nat) : Int) ((m : Int) + 1) = 1 then true else Lw.strongL ((m : Int) + 1) (Lw.pw a ((Lw.strip 2 m : Nat) : Int) ((m : Int) + 1)) (Lw.vp 2 m)) := by
    unfold Lw.strongB; rw [show ((m : Int) + 1 - 1).toNat = m from by omega]; rfl
  go_enter Try.func29, Try.ntmps29
  go_wp2
  go_loop [5] (fun d => ∃ e : Nat, d = .int .i64 (e : Int) ∧ 1 ≤ e ∧ e ≤ m ∧ Hid (Lw.strip 2 m = Lw.strip 2 e)) (fun d => (intOf d).toNat)
  case atStart => exact ⟨m, by go_num, by omega, by omega, rfl⟩
  case round =>
    obtain ⟨e, rfl, e1, e2, H⟩ := hrel
    by_cases he : e % 2 = 0
    · have hb : ((e : Int) % 2 == 0) = true := by simp; omega
      have N : Hid (Lw.strip 2 m = Lw.strip 2 (e / 2)) := by
        show _ = _; rw [H.out, Lw.strip_yes (by omega) (by omega) he]
      clear H
      go_wp2
      go_round
      case rel => exact ⟨e / 2, by go_num, by omega, by omega, N⟩
      case measure => simp [intOf]; omega
    · have hb : ((e : Int) % 2 == 0) = false := by simp; omega
      have N : Hid (Lw.strip 2 m = e) := by
        show _ = _; rw [H.out, Lw.strip_no he]
      have M : Hid (m = 2 ^ Lw.vp 2 m * e) := by
        have := (Lw.strip_spec 2 (by omega) m (by omega)).1
        rw [N.out] at this
        exact this
      have E2 : Hid (Lw.strongB a ((m : Int) + 1) = if Lw.pw a (e : Int) ((m : Int) + 1) = 1 then true else Lw.strongL ((m : Int) + 1) (Lw.pw a (e : Int) ((m : Int) + 1)) (Lw.vp 2 m)) := by
        show _ = _; rw [E.out, N.out]
      obtain ⟨S, hS⟩ : ∃ S, Lw.vp 2 m = S := ⟨_, rfl⟩
      rw [hS] at M E2
      clear H E N hS
      by_cases hx : Lw.pw a (e : Int) ((m : Int) + 1) = 1
      · have hx1 : (Lw.pw a (e : Int) ((m : Int) + 1) == 1) = true := by simpa using hx
        have E3 : Hid (Lw.strongB a ((m : Int) + 1) = true) := by show _ = _; rw [E2.out, if_pos hx]
        clear hx E2
        go_wp2_with (go_at_call 38; refine (ref_Pow _ _ _ _ _ (Nat.le_refl _) (by omega) (by omega) (by omega) (by omega)).mono ?_; rintro e w' ⟨rfl, rfl⟩)
        go_ret
        rw [E3.out]; exact ⟨rfl, rfl⟩
      · have hx1 : (Lw.pw a (e : Int) ((m : Int) + 1) == 1) = false := by simpa using hx
        have E3 : Hid (Lw.strongB a ((m : Int) + 1) = Lw.strongL ((m : Int) + 1) (Lw.pw a (e : Int) ((m : Int) + 1)) S) := by show _ = _; rw [E2.out, if_neg hx]
        clear hx E2
        go_wp2_with (go_at_call 38; refine (ref_Pow _ _ _ _ _ (Nat.le_refl _) (by omega) (by omega) (by omega) (by omega)).mono ?_; rintro e w' ⟨rfl, rfl⟩)
        go_loop [5] (fun d => ∃ (f k : Nat), d = .int .i64 (f : Int) ∧ 1 ≤ f ∧ f ≤ m ∧ k ≤ S ∧ Hid (f = 2 ^ k * e ∧ Lw.strongB a ((m : Int) + 1) = Lw.strongL ((m : Int) + 1) (Lw.pw a (f : Int) ((m : Int) + 1)) (S - k))) (fun d => (m - (intOf d)).toNat)
        case atStart => exact ⟨e, 0, rfl, by omega, by omega, by omega, by simp, E3.out⟩
        case round =>
          obtain ⟨f, k, rfl, f1, f2, hk, G⟩ := hrel
          by_cases hlt : f < m
          · have hks : k < S := by
              by_cases h : k = S
              · exfalso
                have h3 := G.out.1
                have h4 := M.out
                rw [h] at h3
                omega
              · omega
            by_cases hxm : Lw.pw a (f : Int) ((m : Int) + 1) = (m : Int)
            · have hb2 : (Lw.pw a (f : Int) ((m : Int) + 1) == (m : Int)) = true := by simpa using hxm
              have T : Hid (Lw.strongB a ((m : Int) + 1) = true) := by
                show _ = _
                rw [G.out.2, show S - k = (S - k - 1) + 1 from by omega, Lw.strongL_yes (by omega)]
              clear hxm G E3
              go_wp2_with (go_at_call 38; refine (ref_Pow _ _ _ _ _ (Nat.le_refl _) (by omega) (by omega) (by omega) (by omega)).mono ?_; rintro e w' ⟨rfl, rfl⟩)
              go_ret
              rw [T.out]; exact ⟨by simp, rfl⟩
            · have hb2 : (Lw.pw a (f : Int) ((m : Int) + 1) == (m : Int)) = false := by simpa using hxm
              have hf2 : 2 ^ (k + 1) * e ≤ 2 ^ S * e := Nat.mul_le_mul_right _ (Nat.pow_le_pow_right (by omega) (by omega))
              have hf3 : 2 * f = 2 ^ (k + 1) * e := by rw [G.out.1, Nat.pow_succ, Nat.mul_comm (2 ^ k) 2, Nat.mul_assoc]
              have hf4 : 2 * f ≤ m := by have := M.out; omega
              have T : Hid (2 * f = 2 ^ (k + 1) * e ∧ Lw.strongB a ((m : Int) + 1) = Lw.strongL ((m : Int) + 1) (Lw.pw a ((2 * f : Nat) : Int) ((m : Int) + 1)) (S - (k + 1))) := by
                refine ⟨hf3, ?_⟩
                have h5 := Lw.pw_add a (f : Int) (f : Int) ((m : Int) + 1) (by omega) (by omega)
                rw [show (f : Int) + (f : Int) = ((2 * f : Nat) : Int) from by omega] at h5
                rw [G.out.2, show S - k = (S - k - 1) + 1 from by omega, Lw.strongL_no (by omega), h5, show S - k - 1 = S - (k + 1) from by omega]
              clear hxm G E3 hf2 hf3
              go_wp2_with (go_at_call 38; refine (ref_Pow _ _ _ _ _ (Nat.le_refl _) (by omega) (by omega) (by omega) (by omega)).mono ?_; rintro e w' ⟨rfl, rfl⟩)
              go_round
              case rel => exact ⟨2 * f, k + 1, by go_num, by omega, by omega, by omega, T⟩
              case measure => simp [intOf]; omega
          · have hks : k = S := by
              by_cases h : k < S
              · exfalso
                have h3 := G.out.1
                have h4 := M.out
                have h5 : 2 ^ k * e < 2 ^ S * e := Nat.mul_lt_mul_of_pos_right (Nat.pow_lt_pow_right (by omega) h) (by omega)
                omega
              · omega
            have T : Hid (Lw.strongB a ((m : Int) + 1) = false) := by
              show _ = _
              rw [G.out.2, show S - k = 0 from by omega]; rfl
            clear G E3
            go_wp2_with (go_at_call 38; refine (ref_Pow _ _ _ _ _ (Nat.le_refl _) (by omega) (by omega) (by omega) (by omega)).mono ?_; rintro e w' ⟨rfl, rfl⟩)
            go_ret
            rw [T.out]; exact ⟨rfl, rfl⟩
end Go.Proofs.Ytcnifgdlihlkaaa

/- Contracts of power.Order and of the reference's Order. -/
import Derived.Test.YtlgegdmnbhoepaaLam
import Derived.Test.YtlgegdmnbhoepaaPow
import Derived.Test.YtlgegdmnbhoepaaMem
import Derived.IntWalk
namespace Lw
def One (a m : Int) (k : Nat) : Prop := pw a (k : Int) m = 1 % m
instance (a m : Int) (k : Nat) : Decidable (One a m k) := inferInstanceAs (Decidable (_ = _))
theorem One.mul {a m : Int} {k : Nat} (h : One a m k) (q : Nat) : One a m (k * q) := by
  unfold One at *
  rw [Int.natCast_mul, ← pw_pw a _ _ m (by omega) (by omega), h, pw_emod, one_pw]
theorem One.rest {a m : Int} (hm : 0 < m) {k q : Nat} (h : One a m (q + k)) (hq : One a m q) : One a m k := by
  unfold One at *
  rw [Int.natCast_add, pw_add a _ _ m (by omega) (by omega), hq, Int.mul_emod, Int.emod_emod, ← Int.mul_emod, Int.one_mul, pw_self_emod _ _ _ hm] at h
  exact h
def ordI (a m : Int) : Int := ((((List.range m.toNat).find? (fun i => decide (One a m (i + 1)))).map (· + 1)).getD 0 : Nat)
theorem ordI_eq {a m : Int} {k : Nat} (h1 : 1 ≤ k) (h2 : (k : Int) ≤ m) (h : One a m k) (hl : ∀ j, 1 ≤ j → j < k → ¬ One a m j) : ordI a m = (k : Int) := by
  unfold ordI
  have : (List.range m.toNat).find? (fun i => decide (One a m (i + 1))) = some (k - 1) := by
    rw [List.find?_range_eq_some]
    refine ⟨?_, ?_, ?_⟩
    · rw [Nat.sub_add_cancel h1]; exact decide_eq_true h
    · rw [List.mem_range]; omega
    · intro j hj
      have := hl (j + 1) (by omega) (by omega)
      simp [this]
  rw [this]
  show (((k - 1 + 1 : Nat)) : Int) = _
  rw [Nat.sub_add_cancel h1]
theorem ordI_none {a m : Int} (hl : ∀ j : Nat, 1 ≤ j → (j : Int) ≤ m → ¬ One a m j) : ordI a m = 0 := by
  unfold ordI
  have : (List.range m.toNat).find? (fun i => decide (One a m (i + 1))) = none := by
    rw [List.find?_eq_none]
    intro i hi
    rw [List.mem_range] at hi
    have := hl (i + 1) (by omega) (by omega)
    simpa using this
  rw [this]; rfl
theorem quiet2 {P : Go.Program} {f : Go.FuncId} {args : Array Go.Value} {w : Go.World} {d n : Nat} {v : Go.Value} (h : Go.Calls P f args (w.drewN (d + n)) fun e w' => e = .returned v ∧ w.drewN (d + n) = w') : Go.Calls P f args (w.drewN (d + n)) fun e w'' => e = .returned v ∧ ∃ m, w'' = w.drewN (d + m) :=
  h.mono fun _ _ ⟨he, hm⟩ => ⟨he, n, hm.symm⟩
def Done (a m : Int) (q k : Nat) : Prop := ¬ (k % q = 0 ∧ One a m (k / q))
def OrdSt (a m : Int) (lam : Nat) (l : List (Nat × Nat)) (k : Nat) : Prop := One a m k ∧ 1 ≤ k ∧ k ∣ lam ∧ ∀ x, x ∈ l → Done a m x.1 k
theorem OrdSt.step {a m : Int} {lam k p : Nat} {l : List (Nat × Nat)} (h : OrdSt a m lam l k) (hp : 2 ≤ p) (h1 : k % p = 0) (h2 : One a m (k / p)) : OrdSt a m lam l (k / p) := by
  have e : p * (k / p) = k := Nat.mul_div_cancel' (Nat.dvd_of_mod_eq_zero h1)
  refine ⟨h2, ?_, ?_, fun x hx hd => h.2.2.2 x hx ?_⟩
  · exact Nat.div_pos (Nat.le_of_dvd h.2.1 (Nat.dvd_of_mod_eq_zero h1)) (by omega)
  · exact Nat.dvd_trans ⟨p, by rw [Nat.mul_comm]; exact e.symm⟩ h.2.2.1
  · obtain ⟨g1, g2⟩ := hd
    obtain ⟨c, hc⟩ := Nat.dvd_of_mod_eq_zero g1
    by_cases hx0 : x.1 = 0
    · rw [hx0] at hc
      have : k / p = 0 := by omega
      rw [this] at e
      have := h.2.1; omega
    · rw [hc, Nat.mul_div_cancel_left _ (by omega)] at g2
      have e2 : k = x.1 * (p * c) := by rw [← e, hc, Nat.mul_left_comm]
      refine ⟨by rw [e2]; exact Nat.mul_mod_right _ _, ?_⟩
      rw [e2, Nat.mul_div_cancel_left _ (by omega), Nat.mul_comm]
      exact g2.mul p
theorem OrdSt.take {a m : Int} {lam k : Nat} {l : List (Nat × Nat)} {x : Nat × Nat} (h : OrdSt a m lam l k) (hd : Done a m x.1 k) : OrdSt a m lam (l ++ [x]) k :=
  ⟨h.1, h.2.1, h.2.2.1, fun y hy => by
    rcases List.mem_append.1 hy with hy | hy
    · exact h.2.2.2 y hy
    · rcases List.mem_cons.1 hy with rfl | hy
      · exact hd
      · cases hy⟩
theorem OrdSt.least {a m : Int} {lam k : Nat} (hm : 0 < m) (hl : 0 < lam) (h : OrdSt a m lam (fac lam) k) : ∀ j, 1 ≤ j → j < k → ¬ One a m j := by
  intro j
  induction j using Nat.strongRecOn with
  | ind j ih =>
    intro j1 j2 hj
    have hr : k % j = 0 := by
      by_cases hr : k % j = 0
      · exact hr
      · exfalso
        refine ih (k % j) (Nat.mod_lt _ (by omega)) (by omega) (by have := Nat.mod_lt k (by omega : 0 < j); omega) ?_
        have e := Nat.div_add_mod k j
        have h1 := h.1
        rw [← e] at h1
        exact h1.rest hm (hj.mul _)
    obtain ⟨c, hc⟩ := Nat.dvd_of_mod_eq_zero hr
    have c2 : 2 ≤ c := by
      have : c ≠ 0 := by intro e; subst e; omega
      have : c ≠ 1 := by intro e; subst e; omega
      omega
    obtain ⟨m1, ⟨d, hd⟩, _⟩ := minFac_spec c2
    have hq := minFac_prime c2
    have hqk : minFac c ∣ k := ⟨j * d, by rw [hc, hd, Nat.mul_left_comm]; rw [← hd]⟩
    obtain ⟨v, hv⟩ := mem_fac hq lam hl (Nat.dvd_trans hqk h.2.2.1)
    refine h.2.2.2 _ hv ⟨Nat.mod_eq_zero_of_dvd hqk, ?_⟩
    have e3 : k = minFac c * (j * d) := by rw [hc]; conv => lhs; rw [hd]
                                           rw [Nat.mul_left_comm]
    rw [show (minFac c, v).1 = minFac c from rfl]
    rw [e3, Nat.mul_div_cancel_left _ (by omega)]
    exact hj.mul d
theorem one_lam {a : Int} {m : Nat} (hm : 0 < m) (hg : gcdI a (m : Int) = 1) : One a (m : Int) (lamI m) := by
  have h0 := Int.emod_nonneg a (by omega : (m : Int) ≠ 0)
  obtain ⟨b, hb⟩ := Int.eq_ofNat_of_zero_le h0
  have hb' : a % (m : Int) = (b : Int) := hb
  have hgb : Nat.gcd b m = 1 := by
    have := gcdI_emod a (m : Int)
    rw [hg, hb'] at this
    unfold gcdI at this
    rw [Int.gcd, Int.natAbs_natCast, Int.natAbs_natCast] at this
    exact Int.ofNat.inj this
  have := carmichael hm hgb
  unfold One
  rw [← pw_emod, hb']
  unfold pw
  rw [Int.toNat_natCast]
  exact emod_of_dvd_sub this
theorem no_one {a : Int} {m : Nat} (hm : 0 < m) (hg : ¬ gcdI a (m : Int) = 1) : ∀ j : Nat, 1 ≤ j → ¬ One a (m : Int) j := by
  intro j hj h
  unfold One pw at h
  rw [Int.toNat_natCast] at h
  have h1 : (m : Int) ∣ a ^ j - 1 := Int.dvd_of_emod_eq_zero (by rw [Int.sub_emod, h]; simp)
  have d1 : gcdI a (m : Int) ∣ a ^ j - 1 := Int.dvd_trans (gcdI_dvd_right _ _) h1
  have d2 : gcdI a (m : Int) ∣ a ^ j := by
    obtain ⟨i, rfl⟩ : ∃ i, j = i + 1 := ⟨j - 1, by omega⟩
    rw [Int.pow_succ]; exact Int.dvd_mul_of_dvd_right (gcdI_dvd_left _ _)
  have d3 := Int.dvd_sub d2 d1
  rw [show a ^ j - (a ^ j - 1) = 1 by omega] at d3
  have := Int.le_of_dvd (by omega) d3
  have := gcdI_pos (a := a) (b := (m : Int)) (.inr (by omega))
  omega
end Lw
set_option linter.unusedVariables false
set_option linter.unusedSimpArgs false
namespace Go.Proofs.Ytlgegdmnbhoepaa
open Go.RowKit
theorem ref_Order (a : Int) (m : Nat) (w : World) (h1 : 1 ≤ m) (h2 : m ≤ 1048576) :
    Calls Try.prog 67 #[.int .i64 a, .int .i64 (m : Int)] w fun e w' => e = .returned (.int .i64 (Lw.ordI a (m : Int))) ∧ w = w' := by
  obtain ⟨s1, s2⟩ := Lw.emod_bd a (m : Int) (by omega)
  obtain ⟨o1, o2⟩ := Lw.emod_bd 1 (m : Int) (by omega)
  go_enter Try.func67, Try.ntmps67
  go_wp2
  go_loop [5, 6] (fun x i => ∃ k : Nat, i = .int .i64 ((k : Int) + 1) ∧ k ≤ m ∧ x = .int .i64 (Lw.pw a (k : Int) (m : Int)) ∧ Hid (∀ j, 1 ≤ j → j ≤ k → ¬ Lw.One a (m : Int) j)) (fun _ i => m + 1 - (intOf i).toNat)
  case atStart => exact ⟨0, rfl, by omega, by rw [show ((0 : Nat) : Int) = 0 from rfl, Lw.pw_zero], fun j h1 h2 => by omega⟩
  case round =>
    obtain ⟨k, rfl, k1, rfl, H⟩ := hrel
    obtain ⟨p1, p2⟩ := Lw.pw_bd a (k : Int) (m : Int) (by omega)
    by_cases hlt : k < m
    · have hs : Lw.pw a (k : Int) (m : Int) * (a % (m : Int)) % (m : Int) = Lw.pw a ((k : Int) + 1) (m : Int) := by
        rw [Lw.pw_add a _ _ _ (by omega) (by omega), Lw.pw_one]
      obtain ⟨q1, q2⟩ := Lw.mul_bd' (Lw.pw a (k : Int) (m : Int)) (a % (m : Int)) 1048576 p1 (by omega) s1 (by omega)
      have S := Lib.hid hs
      by_cases ho : Lw.One a (m : Int) (k + 1)
      · have hb : (Lw.pw a (k : Int) (m : Int) * (a % (m : Int)) % (m : Int) == 1 % (m : Int)) = true := by rw [hs]; simp; exact ho
        have E : Hid (((k : Int) + 1) = Lw.ordI a (m : Int)) := by
          show _ = _
          have := Lw.ordI_eq (a := a) (m := (m : Int)) (k := k + 1) (by omega) (by omega) ho (fun j j1 j2 => H.out j j1 (by omega))
          rw [this]; omega
        clear ho hs
        go_wp2_with (go_at_call 64; refine (ref_Mod _ _ _ (by omega) (by omega)).mono ?_; rintro e w' ⟨rfl, rfl⟩)
        go_ret
        exact ⟨Lw.ret_int E.out, rfl⟩
      · have hb : (Lw.pw a (k : Int) (m : Int) * (a % (m : Int)) % (m : Int) == 1 % (m : Int)) = false := by rw [hs]; simp; exact ho
        have N : Hid (∀ j, 1 ≤ j → j ≤ k + 1 → ¬ Lw.One a (m : Int) j) := fun j j1 j2 => by
          by_cases e : j = k + 1
          · subst e; exact ho
          · exact H.out j j1 (by omega)
        clear ho hs
        go_wp2_with (go_at_call 64; refine (ref_Mod _ _ _ (by omega) (by omega)).mono ?_; rintro e w' ⟨rfl, rfl⟩)
        go_round
        case rel => exact ⟨k + 1, by go_num, by omega, by rw [S.out]; go_num, N⟩
        case measure => simp [intOf]; omega
    · have E : Hid (0 = Lw.ordI a (m : Int)) := (Lw.ordI_none (fun j j1 j2 => H.out j j1 (by omega))).symm
      go_wp2
      go_ret
      exact ⟨Lw.ret_int E.out, rfl⟩
end Go.Proofs.Ytlgegdmnbhoepaa

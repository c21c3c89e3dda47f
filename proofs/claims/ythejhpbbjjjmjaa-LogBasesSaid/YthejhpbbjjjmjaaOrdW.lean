/- Contracts of power.Order and of the reference's Order. -/
import Derived.Test.YthejhpbbjjjmjaaLam
import Derived.Test.YthejhpbbjjjmjaaPow
import Derived.Test.YthejhpbbjjjmjaaMem
import Derived.IntWalk
namespace Lw
def One (a m : Int) (k : Nat) : Prop := pw a (k : Int) m = 1 % m
instance (a m : Int) (k : Nat) : Decidable (One a m k) := inferInstanceAs (Decidable (_ = _))
theorem One.mul {a m : Int} {k : Nat} (h : One a m k) (q : Nat) : One a m (k * q) := by
  unfold One at *
  rw [Int.natCast_mul, ← pw_pw a _ _ m (by omega) (by omega), h, pw_emod, one_pw]
theorem One.rest {a m : Int} (hm : 0 < m) {k q : Nat} (h : One a m (q + k)) (hq : One a m q) : One a m k := by
  unfold One at *
  rw [Int.natCast_add, pw_add a _ _ m (by omega) (by omega), hq, Int.mul_emod, Int.emod_emod, ← Int.mul_emod, Int.one_mul, pw_self_emod _ _ _ hm] at h
  exact h
def ordI (a m : Int) : Int := ((((List.range m.toNat).find? (fun i => decide (One a m (i + 1)))).map (· + 1)).getD 0 : Nat)
theorem ordI_eq {a m : Int} {k : Nat} (h1 : 1 ≤ k) (h2 : (k : Int) ≤ m) (h : One a m k) (hl : ∀ j, 1 ≤ j → j < k → ¬ One a m j) : ordI a m = (k : Int) := by
  unfold ordI
  have : (List.range m.toNat).find? (fun i => decide (One a m (i + 1))) = some (k - 1) := by
    rw [List.find?_range_eq_some]
    refine ⟨?_, ?_, ?_⟩
    · rw [Nat.sub_add_cancel h1]; exact decide_eq_true h
    · rw [List.mem_range]; omega
    · intro j hj
      have := hl (j + 1) (by omega) (by omega)
      simp [this]
  rw [this]
  show (((k - 1 + 1 : Nat)) : Int) = _
  rw [Nat.sub_add_cancel h1]
theorem ordI_none {a m : Int} (hl : ∀ j : Nat, 1 ≤ j → (j : Int) ≤ m → ¬ One a m j) : ordI a m = 0 := by
  unfold ordI
  have : (List.range m.toNat).find? (fun i => decide (One a m (i + 1))) = none := by
    rw [List.find?_eq_none]
    intro i hi
    rw [List.mem_range] at hi
    have := hl (i + 1) (by omega) (by omega)
    simpa using this
  rw [this]; rfl
theorem quiet2 {P : Go.Program} {f : Go.FuncId} {args : Array Go.Value} {w : Go.World} {d n : Nat} {v : Go.Value} (h : Go.Calls P f args (w.drewN (d + n)) fun e w' => e = .returned v ∧ w.drewN (d + n) = w') : Go.Calls P f args (w.drewN (d + n)) fun e w'' => e = .returned v ∧ ∃ m, w'' = w.drewN (d + m) :=
  h.mono fun _ _ ⟨he, hm⟩ => ⟨he, n, hm.symm⟩
def Done (a m : Int) (q k : Nat) : Prop := ¬ (k % q = 0 ∧ One a m (k / q))
def OrdSt (a m : Int) (lam : Nat) (l : List (Nat × Nat)) (k : Nat) : Prop := One a m k ∧ 1 ≤ k ∧ k ∣ lam ∧ ∀ x, x ∈ l → Done a m x.1 k
theorem OrdSt.step {a m : Int} {lam k p : Nat} {l : List (Nat × Nat)} (h : OrdSt a m lam l k) (hp : 2 ≤ p) (h1 : k % p = 0) (h2 : One a m (k / p)) : OrdSt a m lam l (k / p) := by
  have e : p * (k / p) = k := Nat.mul_div_cancel' (Nat.dvd_of_mod_eq_zero h1)
  refine ⟨h2, ?_, ?_, fun x hx hd => h.2.2.2 x hx ?_⟩
  · exact Nat.div_pos (Nat.le_of_dvd h.2.1 (Nat.dvd_of_mod_eq_zero h1)) (by omega)
  · exact Nat.dvd_trans ⟨p, by rw [Nat.mul_comm]; exact e.symm⟩ h.2.2.1
  · obtain ⟨g1, g2⟩ := hd
    obtain ⟨c, hc⟩ := Nat.dvd_of_mod_eq_zero g1
    by_cases hx0 : x.1 = 0
    · rw [hx0] at hc
      have : k / p = 0 := by omega
      rw [this] at e
      have := h.2.1; omega
    · rw [hc, Nat.mul_div_cancel_left _ (by omega)] at g2
      have e2 : k = x.1 * (p * c) := by rw [← e, hc, Nat.mul_left_comm]
      refine ⟨by rw [e2]; exact Nat.mul_mod_right _ _, ?_⟩
      rw [e2, Nat.mul_div_cancel_left _ (by omega), Nat.mul_comm]
      exact g2.mul p
theorem OrdSt.take {a m : Int} {lam k : Nat} {l : List (Nat × Nat)} {x : Nat × Nat} (h : OrdSt a m lam l k) (hd : Done a m x.1 k) : OrdSt a m lam (l ++ [x]) k :=
  ⟨h.1, h.2.1, h.2.2.1, fun y hy => by
    rcases List.mem_append.1 hy with hy | hy
    · exact h.2.2.2 y hy
    · rcases List.mem_cons.1 hy with rfl | hy
      · exact hd
      · cases hy⟩
theorem OrdSt.least {a m : Int} {lam k : Nat} (hm : 0 < m) (hl : 0 < lam) (h : OrdSt a m lam (fac lam) k) : ∀ j, 1 ≤ j → j < k → ¬ One a m j := by
  intro j
  induction j using Nat.strongRecOn with
  | ind j ih =>
    intro j1 j2 hj
    have hr : k % j = 0 := by
      by_cases hr : k % j = 0
      · exact hr
      · exfalso
        refine ih (k % j) (Nat.mod_lt _ (by omega)) (by omega) (by have := Nat.mod_lt k (by omega : 0 < j); omega) ?_
        have e := Nat.div_add_mod k j
        have h1 := h.1
        rw [← e] at h1
        exact h1.rest hm (hj.mul _)
    obtain ⟨c, hc⟩ := Nat.dvd_of_mod_eq_zero hr
    have c2 : 2 ≤ c := by
      have : c ≠ 0 := by intro e; subst e; omega
      have : c ≠ 1 := by intro e; subst e; omega
      omega
    obtain ⟨m1, ⟨d, hd⟩, _⟩ := minFac_spec c2
    have hq := minFac_prime c2
    have hqk : minFac c ∣ k := ⟨j * d, by rw [hc, hd, Nat.mul_left_comm]; rw [← hd]⟩
    obtain ⟨v, hv⟩ := mem_fac hq lam hl (Nat.dvd_trans hqk h.2.2.1)
    refine h.2.2.2 _ hv ⟨Nat.mod_eq_zero_of_dvd hqk, ?_⟩
    have e3 : k = minFac c * (j * d) := by rw [hc]; conv => lhs; rw [hd]
                                           rw [Nat.mul_left_comm]
    rw [show (minFac c, v).1 = minFac c from rfl]
    rw [e3, Nat.mul_div_cancel_left _ (by omega)]
    exact hj.mul d
theorem one_lam {a : Int} {m : Nat} (hm : 0 < m) (hg : gcdI a (m : Int) = 1) : One a (m : Int) (lamI m) := by
  have h0 := Int.emod_nonneg a (by omega : (m : Int) ≠ 0)
  obtain ⟨b, hb⟩ := Int.eq_ofNat_of_zero_le h0
  have hb' : a % (m : Int) = (b : Int) := hb
  have hgb : Nat.gcd b m = 1 := by
    have := gcdI_emod a (m : Int)
    rw [hg, hb'] at this
    unfold gcdI at this
    rw [Int.gcd, Int.natAbs_natCast, Int.natAbs_natCast] at this
    exact Int.ofNat.inj this
  have := carmichael hm hgb
  unfold One
  rw [← pw_emod, hb']
  unfold pw
  rw [Int.toNat_natCast]
  exact emod_of_dvd_sub this
theorem no_one {a : Int} {m : Nat} (hm : 0 < m) (hg : ¬ gcdI a (m : Int) = 1) : ∀ j : Nat, 1 ≤ j → ¬ One a (m : Int) j := by
  intro j hj h
  unfold One pw at h
  rw [Int.toNat_natCast] at h
  have h1 : (m : Int) ∣ a ^ j - 1 := Int.dvd_of_emod_eq_zero (by rw [Int.sub_emod, h]; simp)
  have d1 : gcdI a (m : Int) ∣ a ^ j - 1 := Int.dvd_trans (gcdI_dvd_right _ _) h1
  have d2 : gcdI a (m : Int) ∣ a ^ j := by
    obtain ⟨i, rfl⟩ : ∃ i, j = i + 1 := ⟨j - 1, by omega⟩
    rw [Int.pow_succ]; exact Int.dvd_mul_of_dvd_right (gcdI_dvd_left _ _)
  have d3 := Int.dvd_sub d2 d1
  rw [show a ^ j - (a ^ j - 1) = 1 by omega] at d3
  have := Int.le_of_dvd (by omega) d3
  have := gcdI_pos (a := a) (b := (m : Int)) (.inr (by omega))
  omega
end Lw
set_option linter.unusedVariables false
set_option linter.unusedSimpArgs false
namespace Go.Proofs.Ythejhpbbjjjmjaa
open Go.RowKit
theorem ref_Order (a : Int) (m : Nat) (w : World) (h1 : 1 ≤ m) (h2 : m ≤ 1048576) :
    Calls Try.prog 32 #[.int .i64 a, .int .i64 (m : Int)] w fun e w' => e = .returned (.int .i64 (Lw.ordI a (m : Int))) ∧ w = w' := by
  obtain ⟨s1, s2⟩ := Lw.emod_bd a (m : Int) (by omega)
  obtain ⟨o1, o2⟩ := Lw.emod_bd 1 (m : Int) (by omega)
  go_enter Try.func32, Try.ntmps32
  go_wp2
  go_loop [5, 6] (fun x i => ∃ k : Nat, i = .int .i64 ((k : Int) + 1) ∧ k ≤ m ∧ x = .int .i64 (Lw.pw a (k : Int) (m : Int)) ∧ Hid (∀ j, 1 ≤ j → j ≤ k → ¬ Lw.One a (m : Int) j)) (fun _ i => m + 1 - (intOf i).toNat)
  case atStart => exact ⟨0, rfl, by omega, by rw [show ((0 : Nat) : Int) = 0 from rfl, Lw.pw_zero], fun j h1 h2 => by omega⟩
  case round =>
    obtain ⟨k, rfl, k1, rfl, H⟩ := hrel
    obtain ⟨p1, p2⟩ := Lw.pw_bd a (k : Int) (m : Int) (by omega)
    by_cases hlt : k < m
    · have hs : Lw.pw a (k : Int) (m : Int) * (a % (m : Int)) % (m : Int) = Lw.pw a ((k : Int) + 1) (m : Int) := by
        rw [Lw.pw_add a _ _ _ (by omega) (by omega), Lw.pw_one]
      obtain ⟨q1, q2⟩ := Lw.mul_bd' (Lw.pw a (k : Int) (m : Int)) (a % (m : Int)) 1048576 p1 (by omega) s1 (by omega)
      have S := Lib.hid hs
      by_cases ho : Lw.One a (m : Int) (k + 1)
      · have hb : (Lw.pw a (k : Int) (m : Int) * (a % (m : Int)) % (m : Int) == 1 % (m : Int)) = true := by rw [hs]; simp; exact ho
        have E : Hid (((k : Int) + 1) = Lw.ordI a (m : Int)) := by
          show _ = _
          have := Lw.ordI_eq (a := a) (m := (m : Int)) (k := k + 1) (by omega) (by omega) ho (fun j j1 j2 => H.out j j1 (by omega))
          rw [this]; omega
        clear ho hs
        go_wp2_with (go_at_call 28; refine (ref_Mod _ _ _ (by omega) (by omega)).mono ?_; rintro e w' ⟨rfl, rfl⟩)
        go_ret
        exact ⟨Lw.ret_int E.out, rfl⟩
      · have hb : (Lw.pw a (k : Int) (m : Int) * (a % (m : Int)) % (m : Int) == 1 % (m : Int)) = false := by rw [hs]; simp; exact ho
        have N : Hid (∀ j, 1 ≤ j → j ≤ k + 1 → ¬ Lw.One a (m : Int) j) := fun j j1 j2 => by
          by_cases e : j = k + 1
          · subst e; exact ho
          · exact H.out j j1 (by omega)
        clear ho hs
        go_wp2_with (go_at_call 28; refine (ref_Mod _ _ _ (by omega) (by omega)).mono ?_; rintro e w' ⟨rfl, rfl⟩)
        go_round
        case rel => exact ⟨k + 1, by go_num, by omega, by rw [S.out]; go_num, N⟩
        case measure => simp [intOf]; omega
    · have E : Hid (0 = Lw.ordI a (m : Int)) := (Lw.ordI_none (fun j j1 j2 => H.out j j1 (by omega))).symm
      go_wp2
      go_ret
      exact ⟨Lw.ret_int E.out, rfl⟩
set_option maxHeartbeats 2000000 in
theorem power_Order_ok (a : Int) (m : Nat) (w : World) (a1 : -2147483648 ≤ a) (a2 : a ≤ 2147483648) (h1 : 1 ≤ m) (h2 : m ≤ 1048576) (hg : Lw.gcdI a (m : Int) = 1) :
    Calls Try.prog 31 #[.int .i64 a, .int .i64 (m : Int)] w fun e w' => e = .returned (.tuple #[.int .i64 (Lw.ordI a (m : Int)), .int .i64 0]) ∧ Below w.heap.size w w' := by
  have FA := Lw.farB_false (x := a) (by omega)
  have FB := Lw.farB_nat h2
  have G := fun (w : World) => euclid_Gcd a (m : Int) w FA FB
  rw [hg] at G
  have G := Lib.hid G
  obtain ⟨l1, l2⟩ := Lw.lamI_bd h1
  have HO := Lib.hid (Lw.one_lam h1 hg)
  have CL := fun (w : World) => power_lambda m w h1 h2
  obtain ⟨lam, hlam⟩ : ∃ lam, Lw.lamI m = lam := ⟨_, rfl⟩
  rw [hlam] at CL HO l1 l2
  have CL := Lib.hid CL
  have C := fun (w : World) => primes_Factor (lam : Int) w (by omega) (by omega)
  simp only [Int.toNat_natCast] at C
  obtain ⟨L, hL⟩ : ∃ L, Lw.fac lam = L := ⟨_, rfl⟩
  have hpl : Lw.facP lam = Lw.preP L := by rw [← hL]; rfl
  have HM : Hid (∀ x, x ∈ L → 2 ≤ x.1 ∧ x.1 ≤ 1048576) := by
    show ∀ x, _; rw [← hL]; exact fun x hx => ⟨(Lw.fac_mem lam x hx).1.1, by have := Nat.le_of_dvd (by omega) (Lw.fac_mem lam x hx).2.1; omega⟩
  have hlen : L.length ≤ lam := by rw [← hL]; exact Lw.fac_length_le lam
  rw [hL, hpl] at C
  have C := Lib.hid C
  have HL := Lib.hid hL
  obtain ⟨s1, s2⟩ := Lw.emod_bd 1 (m : Int) (by omega)
  clear hL hpl hg hlam FA FB
  go_enter Try.func31, Try.ntmps31
  go_wp2_with (first | (go_at_call 63; (with_reducible refine (G.out _).mono ?_); rintro e w1 ⟨rfl, hb1⟩) | (go_at_call 61; (with_reducible refine (CL.out _).mono ?_); rintro e w2 ⟨rfl, hb2⟩) | (go_at_call 18; (with_reducible refine (C.out _).mono ?_); rintro e w3 ⟨⟨A, c, rfl, own⟩, hb3⟩; have RD := Lib.hid (Lw.Rd.of_own own); clear own) | go_in)
  have hB3 : Below w.heap.size w w3 := by (repeat (first | exact Below.refl _ _ | refine Lw.bt ?_ (by assumption) | refine Lw.balloc ?_ _ | refine Lw.bdrewN ?_ _ | refine Below.drew ?_ | refine Lw.bset ?_ (by first | (simp; done) | (simp; omega) | omega) _))
  clear hb1 hb2 hb3
  go_loopw [8, 33] (fun K i wr => ∃ k i' : Nat, i = .int .i64 (i' : Int) ∧ i' ≤ L.length ∧ K = .int .i64 (k : Int) ∧ 1 ≤ k ∧ k ≤ lam ∧ Hid (Lw.OrdSt a (m : Int) lam (L.take i') k) ∧ Below w3.heap.size w3 wr) (fun _ i _ => L.length - (intOf i).toNat)
  case atStart => exact ⟨lam, 0, rfl, by omega, rfl, l1, Nat.le_refl _, ⟨HO.out, l1, Nat.dvd_refl _, fun x hx => by simp at hx⟩, Below.refl _ _⟩
  case round =>
    obtain ⟨k, i, rfl, i1, rfl, k1, k2, T, hBr⟩ := hrel
    by_cases hlt : i < L.length
    · have hlt' : i < (Lw.preP L).length := by simp [Lw.preP]; exact hlt
      obtain ⟨g0, g1⟩ := Lw.pairsV_get (k := .i64) (l := .i64) (zs := Lw.preP L) (i := i) hlt'
      obtain ⟨x, hx⟩ : ∃ x, L[i] = x := ⟨_, rfl⟩
      have hpx : (Lw.preP L)[i] = ((x.1 : Int), (x.2 : Int)) := by simp [Lw.preP, hx]
      rw [hpx] at g0 g1
      obtain ⟨ad, rfl, had, c0, c1⟩ := (RD.out.below (Nat.le_refl _) hBr).at2 hlt g0 g1
      obtain ⟨x1, x2⟩ := HM.out x (by rw [← hx]; exact List.getElem_mem _)
      have TK : Hid (L.take (i + 1) = L.take i ++ [x]) := by show _ = _; rw [List.take_succ_eq_append_getElem hlt, hx]
      obtain ⟨p, v⟩ := x
      simp only at x1 x2 c0 c1
      clear g0 g1 hpx hx hlt'
      obtain ⟨W, hW⟩ : ∃ W, wr.alloc (.cells #[.int .i64 (p : Int), .int .i64 (v : Int)] 65) = W := ⟨_, rfl⟩
      have B0 : W.heap[wr.heap.size]? = some (.cells #[.int .i64 (p : Int), .int .i64 (v : Int)] 65 (0, 0)) := by rw [← hW]; exact Lw.blk_new _ _ _
      have hBW : Below w3.heap.size w3 W := by rw [← hW]; exact hBr.alloc hBr.size _
      have e0 := Lw.blk_cell B0 0; have e1 := Lw.blk_cell B0 1
      simp at e0 e1
      have HW := Lib.hid hW
      clear hW B0
      go_wp2
      rw [HW.out]
      go_loopw [8] (fun K wr => ∃ j d : Nat, K = .int .i64 (j : Int) ∧ 1 ≤ j ∧ j ≤ lam ∧ Hid (Lw.OrdSt a (m : Int) lam (L.take i) j) ∧ wr = W.drewN d) (fun K _ => (intOf K).toNat)
      case atStart => exact ⟨k, 0, rfl, k1, k2, T, rfl⟩
      case round =>
        obtain ⟨j, d, rfl, j1, j2, U, rfl⟩ := hrel
        have hp0 : ¬ (p : Int) = 0 := by omega
        have hp0n : ¬ p = 0 := by omega
        have hmp : (0 : Int) < (m : Int) := by omega
        have hmb : (m : Int) ≤ 1048576 := by omega
        have hpm : ¬ (p : Int) = -1 := by omega
        have hm0n : ¬ m = 0 := by omega
        have hm0 : ¬ (m : Int) = 0 := by omega
        by_cases hd : j % p = 0
        · obtain ⟨q, hq⟩ : ∃ q, j / p = q := ⟨_, rfl⟩
          have hjp : q < j := by rw [← hq]; exact Nat.div_lt_self (by omega) (by omega)
          have hjp0 : 0 < q := by rw [← hq]; exact Nat.div_pos (Nat.le_of_dvd (by omega) (Nat.dvd_of_mod_eq_zero hd)) (by omega)
          have hqi : (j : Int) / (p : Int) = (q : Int) := by rw [← hq, Int.natCast_ediv]
          have hj0 : (j : Int) % (p : Int) = 0 := by omega
          have q1 : (0 : Int) ≤ (q : Int) := by omega
          have q3 : (q : Int) ≤ 4611686018427387904 := by omega
          have V1 : (j : Int).tmod (p : Int) = 0 := by rw [Int.tmod_eq_emod_of_nonneg (by omega), hj0]
          have HQ := Lib.hid hqi
          have HV := Lib.hid V1
          have HJ := Lib.hid hj0
          clear hj0 V1 hqi
          by_cases ho : Lw.One a (m : Int) q
          · have hb : (Lw.pw a (q : Int) (m : Int) == 1 % (m : Int)) = true := by simp; exact ho
            have N : Hid (Lw.OrdSt a (m : Int) lam (L.take i) q) := by show Lw.OrdSt _ _ _ _ _; rw [← hq]; exact U.out.step x1 hd (by rw [hq]; exact ho)
            clear hd ho hq
            go_wp2
            have V1 := HV.out; have V2 := HQ.out; have V3 := HJ.out
            go_quiet ((go_at_call 58; with_reducible exact Lw.quiet2 (power_Of _ _ _ _ q1 q3 hmp hmb)))
            clear V1
            go_wp2
            clear V2 V3
            go_roundw
            case rel => exact ⟨q, _, rfl, hjp0, by omega, N.out, rfl⟩
            case measure => simp [intOf]; omega
          · have hb : (Lw.pw a (q : Int) (m : Int) == 1 % (m : Int)) = false := by simp; exact ho
            have N : Hid (Lw.OrdSt a (m : Int) lam (L.take (i + 1)) j) := by
              show Lw.OrdSt _ _ _ _ _
              rw [TK.out]; exact U.out.take (fun e => ho (by have := e.2; rwa [hq] at this))
            clear hd ho hq
            go_wp2
            have V1 := HV.out; have V2 := HQ.out; have V3 := HJ.out
            go_quiet ((go_at_call 58; with_reducible exact Lw.quiet2 (power_Of _ _ _ _ q1 q3 hmp hmb)))
            clear V1
            go_wp2
            clear V2 V3
            go_roundw
            case rel => exact ⟨j, i + 1, by go_num, by omega, rfl, j1, j2, N, Lw.belowDrewN hBW _⟩
            case measure => simp [intOf]; omega
        · have hd1 : ((j : Int) % (p : Int) == 0) = false := by simp; omega
          have N : Hid (Lw.OrdSt a (m : Int) lam (L.take (i + 1)) j) := by
            show Lw.OrdSt _ _ _ _ _
            rw [TK.out]; exact U.out.take (fun e => hd e.1)
          clear hd
          have V1 : (j : Int).tmod (p : Int) = (j : Int) % (p : Int) := Int.tmod_eq_emod_of_nonneg (by omega)
          have V2 : wrap64 ((j : Int) / (p : Int)) = (j : Int) / (p : Int) := IntWalk.wrap64_in _ (by
            have := Int.ediv_le_self (p : Int) (by omega : 0 ≤ (j : Int)); have := Int.ediv_nonneg (by omega : 0 ≤ (j : Int)) (by omega : 0 ≤ (p : Int)); omega)
          go_wp2
          go_quiet (fail)
          go_wp2
          clear V1 V2
          go_roundw
          case rel => exact ⟨j, i + 1, by go_num, by omega, rfl, j1, j2, N, Lw.belowDrewN hBW _⟩
          case measure => simp [intOf]; omega
    · obtain rfl : i = L.length := by omega
      have E : Hid (((k : Nat) : Int) = Lw.ordI a (m : Int)) := by
        have t := T.out
        rw [List.take_length, ← HL.out] at t
        exact (Lw.ordI_eq k1 (by omega) t.1 (t.least (by omega) (by omega))).symm
      go_wp2
      go_ret2
      rw [← E.out]
      exact ⟨rfl, Lw.bt hB3 hBr⟩
theorem power_Order_none (a : Int) (m : Nat) (w : World) (a1 : -2147483648 ≤ a) (a2 : a ≤ 2147483648) (h1 : 1 ≤ m) (h2 : m ≤ 1048576) (hg : (Lw.gcdI a (m : Int) != 1) = true) :
    Calls Try.prog 31 #[.int .i64 a, .int .i64 (m : Int)] w fun e w' => e = .returned (.tuple #[.int .i64 0, .int .i64 5]) ∧ Below w.heap.size w w' := by
  have FA := Lw.farB_false (x := a) (by omega)
  have FB := Lw.farB_nat h2
  have G := Lib.hid (fun (w : World) => euclid_Gcd a (m : Int) w FA FB)
  clear FA FB
  go_enter Try.func31, Try.ntmps31
  go_wp2_with (first | (go_at_call 63; (with_reducible refine (G.out _).mono ?_); rintro e w1 ⟨rfl, hb1⟩) | go_in)
  go_ret2
  exact ⟨rfl, by (repeat (first | exact Below.refl _ _ | refine Lw.bt ?_ (by assumption) | refine Lw.balloc ?_ _ | refine Lw.bdrewN ?_ _ | refine Below.drew ?_ | refine Lw.bset ?_ (by first | (simp; done) | (simp; omega) | omega) _))⟩
theorem power_Order_bad (a m : Int) (w : World) (h : a < -2147483648 ∨ 2147483648 < a ∨ m < 1 ∨ 1048576 < m) :
    Calls Try.prog 31 #[.int .i64 a, .int .i64 m] w fun e w' => e = .returned (.tuple #[.int .i64 0, .int .i64 2]) ∧ w = w' := by
  have hc : a < -2147483648 ∨ (-2147483648 ≤ a ∧ 2147483648 < a) ∨ ((-2147483648 ≤ a ∧ a ≤ 2147483648) ∧ (m < 1 ∨ (1 ≤ m ∧ 1048576 < m))) := by omega
  clear h
  rcases hc with h | ⟨h, h'⟩ | ⟨⟨h1, h2⟩, h | ⟨h, h'⟩⟩
  all_goals
    go_enter Try.func31, Try.ntmps31
    go_wp2_with (go_in)
    go_ret2
    exact ⟨rfl, rfl⟩
end Go.Proofs.Ythejhpbbjjjmjaa

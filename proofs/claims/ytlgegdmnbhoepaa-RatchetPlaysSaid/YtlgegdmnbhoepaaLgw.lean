/- log.wrong, log.Log, the reference's Log: the walks. -/
import Derived.Test.YtlgegdmnbhoepaaLgp
import Derived.Test.YtlgegdmnbhoepaaIs
import Derived.Test.YtlgegdmnbhoepaaHelp
import Derived.Test.YtlgegdmnbhoepaaPow
import Derived.Test.YtlgegdmnbhoepaaApp
namespace Lw
open Go Go.RowKit Go.Maps
def prI (p : Int) : Int := if p < 1 ∨ 1048576 < p then 2 else if primeB p then 0 else 3
theorem pr_far {p : Int} (h : p < 1 ∨ 1048576 < p) : prI p = 2 := if_pos h
theorem pr_arg {p : Int} (h : ¬ (p < 1 ∨ 1048576 < p)) (h2 : primeB p = false) : prI p = 3 := by unfold prI; rw [if_neg h, h2]; rfl
theorem pr_ok {p : Int} (h : ¬ (p < 1 ∨ 1048576 < p)) (h2 : primeB p = true) : prI p = 0 := by unfold prI; rw [if_neg h, h2]; rfl
theorem both_far {a b : Int} (h : a < -2147483648 ∨ 2147483648 < a ∨ b < -2147483648 ∨ 2147483648 < b) (x : Int) : firstI (bothI a b) x = 2 := by unfold firstI bothI farB; simp; omega
theorem both_in {a b : Int} (h : ¬ (a < -2147483648 ∨ 2147483648 < a ∨ b < -2147483648 ∨ 2147483648 < b)) (x : Int) : firstI (bothI a b) x = x := by
  have : bothI a b = 0 := by unfold bothI farB; simp; omega
  rw [this, firstI_zero]
theorem two_ints (w : World) (x y : Int) : ∀ u ∈ [Value.int .i64 x, Value.int .i64 y], u.oneCell' = true := by intro u hu; simp at hu; rcases hu with rfl | rfl <;> rfl
def LgRes (r : Int) : Value := if r < 0 then .tuple #[.int .i64 0, .int .i64 5] else .tuple #[.int .i64 r, .int .i64 0]
theorem prod_bd {a b p : Int} (ha : 0 ≤ a) (ha' : a < p) (hb : 0 ≤ b) (hb' : b < p) (hp : p ≤ 1048576) : 0 ≤ a * b ∧ a * b ≤ 1099511627776 := by
  obtain ⟨h1, h2⟩ := mul_bd' a b 1048576 ha (by omega) hb (by omega)
  exact ⟨h1, by omega⟩
theorem wf64 {n : Int} (h : 0 ≤ n) (h2 : n ≤ 4611686018427387904) : (Lit.int .i64 n).wf = true := by
  have := wrap64_wf n
  rwa [IntWalk.wrap64_in n (by omega)] at this
theorem lgX_bd {p : Int} (hp : 0 < p) (g a : Int) (j : Nat) : 0 ≤ lgX g a p j ∧ lgX g a p j < p := emod_bd _ _ hp
theorem lgY_bd {p : Int} (hp : 0 < p) (g : Int) (s i : Nat) : 0 ≤ lgY g p s i ∧ lgY g p s i < p := emod_bd _ _ hp
theorem sq_small {k p : Nat} (hp : p ≤ 1048576) (h : (k : Int) * (k : Int) < (p : Int)) : k < 1024 := by
  rcases Nat.lt_or_ge k 1024 with h1 | h1
  · exact h1
  · have h2 := Nat.mul_le_mul h1 h1
    have h3 : ((k * k : Nat) : Int) = (k : Int) * (k : Int) := Int.natCast_mul _ _
    omega
theorem sq_bd {k : Nat} (hk : k ≤ 1024) : 0 ≤ (k : Int) * (k : Int) ∧ (k : Int) * (k : Int) ≤ 1048576 := by
  have h2 := Nat.mul_le_mul hk hk
  have h3 : ((k * k : Nat) : Int) = (k : Int) * (k : Int) := Int.natCast_mul _ _
  omega
theorem sq_big {k p : Nat} (h : ¬ (k : Int) * (k : Int) < (p : Int)) : p ≤ k * k := by
  have h3 : ((k * k : Nat) : Int) = (k : Int) * (k : Int) := Int.natCast_mul _ _
  omega
end Lw
set_option linter.unusedVariables false
set_option linter.unusedSimpArgs false
namespace Go.Proofs.Ytlgegdmnbhoepaa
open Go.RowKit
open Go.Maps
theorem lawLgw : Keyed Try.prog 2 := int_keyed Try.underlying2
theorem zeroLgw (w : World) : (zeroValue 2).run Try.prog w = .ok (.int .i64 0) w := by kernel_rfl
theorem law_primal (p : Int) (w : World) : Calls Try.prog 23 #[.int .i64 p] w fun e w' => e = .returned (.int .i64 (Lw.prI p)) ∧ w = w' := by
  by_cases h : p < 1 ∨ 1048576 < p
  · have E : Lw.modI p = 2 := if_pos h
    have Y := Lib.hid (Lw.pr_far h)
    clear h
    go_enter Try.func23, Try.ntmps23
    go_wp2_with (first | (go_at_call 26; refine (law_modulus _ _).mono ?_; rintro e w' ⟨rfl, rfl⟩))
    go_ret
    exact ⟨by rw [Y.out]; rfl, rfl⟩
  · have E : Lw.modI p = 0 := if_neg h
    have X := fun w => ref_Is p w (by omega)
    cases hp : Lw.primeB p with
    | false =>
      have Y := Lib.hid (Lw.pr_arg h hp)
      rw [hp] at X
      replace X := Lib.hid X
      clear h hp
      go_enter Try.func23, Try.ntmps23
      go_wp2_with (first | (go_at_call 26; refine (law_modulus _ _).mono ?_; rintro e w' ⟨rfl, rfl⟩) | (go_at_call 29; (with_reducible refine (X.out _).mono ?_); rintro e w' ⟨rfl, rfl⟩))
      go_ret
      exact ⟨by rw [Y.out]; rfl, rfl⟩
    | true =>
      have Y := Lib.hid (Lw.pr_ok h hp)
      rw [hp] at X
      replace X := Lib.hid X
      clear h hp
      go_enter Try.func23, Try.ntmps23
      go_wp2_with (first | (go_at_call 26; refine (law_modulus _ _).mono ?_; rintro e w' ⟨rfl, rfl⟩) | (go_at_call 29; (with_reducible refine (X.out _).mono ?_); rintro e w' ⟨rfl, rfl⟩))
      go_ret
      exact ⟨by rw [Y.out]; rfl, rfl⟩
set_option maxHeartbeats 2000000 in
theorem log_wrong2 (p g a : Int) (A : Option Addr) (c : Nat) (w : World) (R : Lw.Rd w 1 A 2 [.int .i64 g, .int .i64 a]) :
    Calls Try.prog 60 #[.int .i64 p, .slice A 2 c] w fun e w' => e = .returned (.int .i64 (Lw.firstI (Lw.bothI g a) (Lw.prI p))) ∧ Below w.heap.size w w' := by
  obtain ⟨ad, rfl, had, hc⟩ := R.2 (by omega)
  have c0 : w.cell? ad = some (.int .i64 g) := hc 0 _ rfl
  have c1 : w.cell? ⟨ad.block, ad.off + 1, none⟩ = some (.int .i64 a) := by have := hc 1 _ rfl; rwa [Lw.add_succ'] at this
  have c0' : w.cell? (ad.add 0) = some (.int .i64 g) := hc 0 _ rfl
  clear R hc
  by_cases h : g < -2147483648 ∨ 2147483648 < g ∨ a < -2147483648 ∨ 2147483648 < a
  · have Y := Lib.hid (Lw.both_far h (Lw.prI p))
    generalize Lw.firstI (Lw.bothI g a) (Lw.prI p) = V at *
    rcases (by omega : g < -2147483648 ∨ (¬ g < -2147483648 ∧ 2147483648 < g) ∨ (¬ g < -2147483648 ∧ ¬ 2147483648 < g ∧ a < -2147483648) ∨ (¬ g < -2147483648 ∧ ¬ 2147483648 < g ∧ ¬ a < -2147483648 ∧ 2147483648 < a)) with k1 | ⟨k1, k2⟩ | ⟨k1, k2, k3⟩ | ⟨k1, k2, k3, k4⟩
    all_goals
      clear h
      go_enter Try.func60, Try.ntmps60
      go_wp2
      refine wp_loop_rounds 2 ?_
      repeat any_goals (rw [rounds_succ]; go_wp2)
      all_goals (go_ret; exact ⟨by rw [Y.out]; rfl, Below.refl _ _⟩)
  · have Y := Lib.hid (Lw.both_in h (Lw.prI p))
    generalize Lw.firstI (Lw.bothI g a) (Lw.prI p) = V at *
    have k1 : ¬ g < -2147483648 := by omega
    have k2 : ¬ 2147483648 < g := by omega
    have k3 : ¬ a < -2147483648 := by omega
    have k4 : ¬ 2147483648 < a := by omega
    clear h
    have key : ∃ (b : Bool) (e : Int), (∀ w, Calls Try.prog 70 #[.int .i64 p] w fun e' w' => e' = .returned (.tuple #[.bool b, .int .i64 e]) ∧ Below w.heap.size w w') ∧ ((e = 2 ∧ b = false ∧ Lw.prI p = 2) ∨ (e = 0 ∧ b = false ∧ Lw.prI p = 3) ∨ (e = 0 ∧ b = true ∧ Lw.prI p = 0)) := by
      by_cases h : p < 1 ∨ 1048576 < p
      · exact ⟨false, 2, fun w => primes_Is_bad p w h, .inl ⟨rfl, rfl, Lw.pr_far h⟩⟩
      · refine ⟨Lw.primeB p, 0, fun w => primes_Is p w (by omega) (by omega), .inr ?_⟩
        cases hp : Lw.primeB p with
        | false => exact .inl ⟨rfl, rfl, Lw.pr_arg h hp⟩
        | true => exact .inr ⟨rfl, rfl, Lw.pr_ok h hp⟩
    obtain ⟨b, e, X, hc⟩ := key
    replace X := Lib.hid X
    rcases hc with ⟨rfl, rfl, hv⟩ | ⟨rfl, rfl, hv⟩ | ⟨rfl, rfl, hv⟩
    all_goals
      have HV := Lib.hid hv
      clear hv
      go_enter Try.func60, Try.ntmps60
      go_wp2
      refine wp_loop_rounds 3 ?_
      repeat any_goals (rw [rounds_succ]; go_wp2_with fail)
      refine (X.out _).mono ?_
      rintro e w1 ⟨rfl, hb1⟩
      go_wp2_with fail
      go_ret
      exact ⟨by rw [Y.out, HV.out]; rfl, hb1⟩
theorem log_Log_bad (g a p : Int) (w : World) (h : ¬ Lw.firstI (Lw.bothI g a) (Lw.prI p) = 0) :
    Calls Try.prog 20 #[.int .i64 g, .int .i64 a, .int .i64 p] w fun e w' => e = .returned (.tuple #[.int .i64 0, .int .i64 (Lw.firstI (Lw.bothI g a) (Lw.prI p))]) ∧ Below w.heap.size w w' := by
  have X := Lib.hid (fun A c w R => log_wrong2 p g a A c w R)
  have z : (Lw.firstI (Lw.bothI g a) (Lw.prI p) != 0) = true := by simpa using h
  generalize Lw.firstI (Lw.bothI g a) (Lw.prI p) = V at *
  clear h
  go_enter Try.func20, Try.ntmps20
  go_wp2_with fail
  refine (X.out _ _ _ (by exact Lw.Rd.lit (Lw.blk_new' (by simp) _ _) rfl rfl)).mono ?_
  rintro e w1 ⟨rfl, hb1⟩
  go_wp2_with fail
  go_ret2
  exact ⟨rfl, Lw.bt (Lw.balloc (Below.refl _ _) _) hb1⟩
set_option maxRecDepth 100000 in
set_option maxHeartbeats 4000000 in
theorem log_Log_ok (g a : Int) (p : Nat) (r : Int) (w : World) (h : Lw.firstI (Lw.bothI g a) (Lw.prI (p : Int)) = 0) (hp : Lw.Prime p) (hp2 : p ≤ 1048576) (hr : Lw.LgP g a (p : Int) r) :
    Calls Try.prog 20 #[.int .i64 g, .int .i64 a, .int .i64 (p : Int)] w fun e w' => e = .returned (Lw.LgRes r) ∧ Below w.heap.size w w' := by
  have X := fun A c w R => log_wrong2 (p : Int) g a A c w R
  rw [h] at X
  replace X := Lib.hid X
  have q2 := hp.1
  have hr := Lw.lg_emod hr
  have MG := Lib.hid (fun w => euclid_Mod g (p : Int) w (by omega) (by omega))
  have MA := Lib.hid (fun w => euclid_Mod a (p : Int) w (by omega) (by omega))
  obtain ⟨g0, g1⟩ := Lw.emod_bd g (p : Int) (by omega)
  obtain ⟨a0, a1⟩ := Lw.emod_bd a (p : Int) (by omega)
  obtain ⟨G, hG⟩ : ∃ G, g % (p : Int) = G := ⟨_, rfl⟩
  obtain ⟨B, hB⟩ : ∃ B, a % (p : Int) = B := ⟨_, rfl⟩
  rw [hG] at hr MG g0 g1
  rw [hB] at hr MA a0 a1
  clear hG hB h
  have p1 : (1 : Int).tmod (p : Int) = 1 := by rw [Int.tmod_eq_emod_of_nonneg (by omega)]; exact Int.emod_eq_of_lt (by omega) (by omega)
  have p1' : (1 : Int) % (p : Int) = 1 := Int.emod_eq_of_lt (by omega) (by omega)
  have pz : ¬ (p : Int) = 0 := by omega
  have eB : B % (p : Int) = B := Int.emod_eq_of_lt a0 a1
  have pw0 : Lw.pw G 0 (p : Int) = 1 := by rw [Lw.pw_zero, p1']
  by_cases hB1 : B = 1
  · have hr0 : r = 0 := Lw.lg_least hr (Int.le_refl 0) (by omega) (by rw [pw0, eB, hB1]) (fun j j0 j1 => by omega)
    subst hr0 hB1
    clear hr pw0 eB
    go_enter Try.func20, Try.ntmps20
    go_wp2_with fail
    refine (X.out _ _ _ (by exact Lw.Rd.lit (Lw.blk_new' (by simp) _ _) rfl rfl)).mono ?_
    rintro e w1 ⟨rfl, hb1⟩
    go_wp2_with (first | (go_at_call 61; (with_reducible refine (MG.out _).mono ?_); rintro e w' ⟨rfl, rfl⟩) | (go_at_call 61; (with_reducible refine (MA.out _).mono ?_); rintro e w' ⟨rfl, rfl⟩))
    go_ret2
    exact ⟨rfl, Lw.bt (Lw.balloc (Below.refl _ _) _) hb1⟩
  · have zB1 : (B == 1) = false := by simpa using hB1
    by_cases hB0 : B = 0
    · have zB0 : (B == 0) = true := by simpa using hB0
      by_cases hG0 : G = 0
      · have zG0 : (G == 0) = true := by simpa using hG0
        have hr1 : r = 1 := Lw.lg_least hr (by omega) (by omega) (by rw [Lw.pw_one, hG0, hB0]) (fun j j0 j1 hj => by obtain rfl : j = 0 := (by omega); rw [pw0, eB] at hj; omega)
        subst hr1
        clear hr pw0 eB hB1 hB0 hG0
        go_enter Try.func20, Try.ntmps20
        go_wp2_with fail
        refine (X.out _ _ _ (by exact Lw.Rd.lit (Lw.blk_new' (by simp) _ _) rfl rfl)).mono ?_
        rintro e w1 ⟨rfl, hb1⟩
        go_wp2_with (first | (go_at_call 61; (with_reducible refine (MG.out _).mono ?_); rintro e w' ⟨rfl, rfl⟩) | (go_at_call 61; (with_reducible refine (MA.out _).mono ?_); rintro e w' ⟨rfl, rfl⟩))
        go_ret2
        exact ⟨rfl, Lw.bt (Lw.balloc (Below.refl _ _) _) hb1⟩
      · have zG0 : (G == 0) = false := by simpa using hG0
        have hr1 : r = -1 := Lw.lg_none hr (fun j j0 j1 hj => by
          obtain ⟨k, rfl⟩ := Int.eq_ofNat_of_zero_le j0
          rw [Lw.pw_nat, eB, hB0] at hj
          exact Lw.pow_not hp (fun hd => by have := Int.le_of_dvd (by omega) hd; omega) k (Int.dvd_of_emod_eq_zero hj))
        subst hr1
        clear hr pw0 eB hB1 hB0 hG0
        go_enter Try.func20, Try.ntmps20
        go_wp2_with fail
        refine (X.out _ _ _ (by exact Lw.Rd.lit (Lw.blk_new' (by simp) _ _) rfl rfl)).mono ?_
        rintro e w1 ⟨rfl, hb1⟩
        go_wp2_with (first | (go_at_call 61; (with_reducible refine (MG.out _).mono ?_); rintro e w' ⟨rfl, rfl⟩) | (go_at_call 61; (with_reducible refine (MA.out _).mono ?_); rintro e w' ⟨rfl, rfl⟩))
        go_ret2
        exact ⟨rfl, Lw.bt (Lw.balloc (Below.refl _ _) _) hb1⟩
    · have zB0 : (B == 0) = false := by simpa using hB0
      by_cases hG0 : G = 0
      · have zG0 : (G == 0) = true := by simpa using hG0
        have hr1 : r = -1 := Lw.lg_none hr (fun j j0 j1 hj => by
          obtain ⟨k, rfl⟩ := Int.eq_ofNat_of_zero_le j0
          rw [Lw.pw_nat, eB, hG0] at hj
          rcases Nat.eq_zero_or_pos k with h | h
          · subst h; rw [Int.pow_zero, p1'] at hj; omega
          · rw [Int.zero_pow (by omega), Int.zero_emod] at hj; omega)
        subst hr1
        clear hr pw0 eB hB1 hB0 hG0
        go_enter Try.func20, Try.ntmps20
        go_wp2_with fail
        refine (X.out _ _ _ (by exact Lw.Rd.lit (Lw.blk_new' (by simp) _ _) rfl rfl)).mono ?_
        rintro e w1 ⟨rfl, hb1⟩
        go_wp2_with (first | (go_at_call 61; (with_reducible refine (MG.out _).mono ?_); rintro e w' ⟨rfl, rfl⟩) | (go_at_call 61; (with_reducible refine (MA.out _).mono ?_); rintro e w' ⟨rfl, rfl⟩))
        go_ret2
        exact ⟨rfl, Lw.bt (Lw.balloc (Below.refl _ _) _) hb1⟩
      · have zG0 : (G == 0) = false := by simpa using hG0
        have nd : ¬ (p : Int) ∣ G := fun hd => by have := Int.le_of_dvd (by omega) hd; omega
        have HIT := Lib.hid (fun s i j hi hj hm hl hn => Lw.lg_hit hp nd a0 a1 hB1 hr (s := s) (i := i) (j := j) hi hj hm hl hn)
        have MISS := Lib.hid (fun s hs hn => Lw.lg_miss hp nd a0 a1 hB1 hr (s := s) hs hn)
        have X0 := Lib.hid (Lw.lgX_zero (g := G) a0 a1)
        have Y0 := Lib.hid (Lw.lgY_zero (p := (p : Int)) (by omega) G)
        have XS := Lib.hid (Lw.lgX_succ G B (p : Int))
        have YS := Lib.hid (Lw.lgY_succ G (p : Int))
        have XB := Lib.hid (Lw.lgX_bd (p := (p : Int)) (by omega) G B)
        have YB := Lib.hid (Lw.lgY_bd (p := (p : Int)) (by omega) G)
        have PB := Lib.hid (fun s : Nat => Lw.pw_bd G (s : Int) (p : Int) (by omega))
        have PW := Lib.hid (fun (s : Nat) (hs : s ≤ 1024) w => power_Of G (s : Int) (p : Int) w (by omega) (by omega) (by omega) (by omega))
        have hmm := @run_makeMap Try.prog
        clear hr pw0 eB hB1 hB0 hG0 nd p1'
        go_enter Try.func20, Try.ntmps20
        go_wp2_with fail
        refine (X.out _ _ _ (by exact Lw.Rd.lit (Lw.blk_new' (by simp) _ _) rfl rfl)).mono ?_
        rintro e w1 ⟨rfl, hb1⟩
        have hb1 : Below w.heap.size w w1 := Lw.bt (Lw.balloc (Below.refl _ _) _) hb1
        go_wp2_with (first | (go_at_call 61; (with_reducible refine (MG.out _).mono ?_); rintro e w' ⟨rfl, rfl⟩) | (go_at_call 61; (with_reducible refine (MA.out _).mono ?_); rintro e w' ⟨rfl, rfl⟩))
        have hs1 := hb1.size
        go_loop [9] (fun x => ∃ k : Nat, x = .int .i64 (k : Int) ∧ 1 ≤ k ∧ k ≤ 1024) (fun x => 1025 - (intOf x).toNat)
        case atStart => exact ⟨1, rfl, by omega, by omega⟩
        case round =>
          obtain ⟨s, rfl, s1, s2⟩ := hrel
          obtain ⟨b0, b1⟩ := Lw.sq_bd s2
          by_cases hlt : (s : Int) * (s : Int) < (p : Int)
          · have h3 := Lw.sq_small hp2 hlt
            go_wp2
            go_round
            case rel => exact ⟨s + 1, by go_num, by omega, by omega⟩
            case measure => simp [intOf]; omega
          · have h3 := Lib.hid (Lw.sq_big hlt)
            have HITs := Lib.hid (HIT.out s)
            have MISSs := Lib.hid (MISS.out s h3.out)
            obtain ⟨l0, l1⟩ := PB.out s
            have PWs := PW.out s s2
            have YSs := YS.out s
            have YBs := Lib.hid (YB.out s)
            have Y0s := Y0.out s
            obtain ⟨L, hL⟩ : ∃ L, Lw.pw G (s : Int) (p : Int) = L := ⟨_, rfl⟩
            rw [hL] at l0 l1 PWs YSs
            replace YSs := Lib.hid YSs
            replace PWs := Lib.hid PWs
            generalize Lw.lgX G B (p : Int) = fx at *
            generalize hfy : Lw.lgY G (p : Int) s = fy at *
            have PP := Lib.hid (fun (x y : Int) h1 h2 h3 h4 => Lw.prod_bd (a := x) (b := y) (p := (p : Int)) h1 h2 h3 h4 (by omega))
            have TM := Lib.hid (fun (x : Int) (h : 0 ≤ x) => (Int.tmod_eq_emod_of_nonneg h : x.tmod (p : Int) = x % (p : Int)))
            clear HIT MISS PB PW YS YB Y0 hL hfy
            go_wp2_with fail
            obtain ⟨bb, hbb⟩ : ∃ b, w1.heap.size = b := ⟨_, rfl⟩
            rw [hbb]
            have HBB := Lib.hid hbb
            go_loopw [11, 12, 61] (fun x _ i wr => ∃ (j : Nat) (D : DataW Unit), i = .int .i64 (j : Int) ∧ j ≤ s ∧ x = .int .i64 (fx j) ∧ Hid (wr.ownsMap Try.prog 2 (plainElem (H := Unit) Try.prog 2) bb j D) ∧ Hid (Lw.LstR fx j D) ∧ Below w.heap.size w wr) (fun _ _ i _ => s - (intOf i).toNat)
            case atStart => exact ⟨0, .map [], rfl, by omega, by rw [X0.out], by rw [← hbb]; exact World.ownsMap_made _ _ _ _, Lw.lst_zero _, Lw.balloc hb1 _⟩
            case round =>
              obtain ⟨j, D, rfl, hj, rfl, own, LR, hB⟩ := hrel
              obtain ⟨x0, x1⟩ := XB.out j
              obtain ⟨n0, n1⟩ := XB.out (j + 1)
              have xs := XS.out j
              by_cases hltj : j < s
              · have hltj' : (j : Int) < (s : Int) := by omega
                have LN := Lib.hid (fun hk => Lw.lst_next own.out.isMap LR.out (z := fx j) rfl hk)
                obtain ⟨z, hz⟩ : ∃ z, fx j = z := ⟨_, rfl⟩
                rw [hz] at x0 x1 xs LN ⊢
                obtain ⟨q0, q1⟩ := PP.out z G x0 x1 g0 g1
                have tm := TM.out (z * G) q0
                have wf : (Lit.int .i64 z).wf = true := Lw.wf64 (by omega) (by omega)
                have hkey : keyOf Try.prog 2 (.int .i64 z) = some (.int .i64 z) := keyOf_int_mk Try.underlying2 wf
                have wfj : (Lit.int .i64 (j : Int)).wf = true := Lw.wf64 (by omega) (by omega)
                rw [xs] at tm
                have XJ := Lib.hid xs
                obtain ⟨z2, hz2⟩ : ∃ z2, fx (j + 1) = z2 := ⟨_, rfl⟩
                rw [hz2] at tm n0 n1
                have HZ2 := Lib.hid hz2
                have hown := own.out
                clear hz xs LR own hz2
                go_wp2_with (first
                  | (at_mapUpdate; refine wpList_mapUpdate_own _ rfl _ _ _ 100 rfl 2 2 lawLgw Try.underlying100 _ bb j _ rfl hown (by unfold maxLen; omega) _ _ _ rfl rfl hkey _ [] (plainElem_int Try.underlying2 wfj) ?_; intro w2 hown1 hgrow1)
                  | go_in)
                go_roundw
                case rel => exact ⟨j + 1, _, by go_num, by omega, by rw [HZ2.out], hown1, LN.out (by first | exact WideAt.IsKeyLit.int | trivial | simp [WideAt.IsKeyLit] | constructor), hB.grown hgrow1 hB.size (fun j hj => by cases hj; rw [← HBB.out]; exact hs1)⟩
                case measure => simp [intOf]; omega
              · have hltj' : ¬ (j : Int) < (s : Int) := by omega
                have hjs : j = s := by omega
                subst hjs
                clear XS X0 x0 x1 n0 n1 xs
                go_wp2_with fail
                refine (PWs.out _).mono ?_
                rintro e w' ⟨rfl, rfl⟩
                go_wp2_with fail
                go_loop [14, 15, 16, 17, 87] (fun y i _ _ _ => ∃ i' : Nat, i = .int .i64 ((i' : Int) + 1) ∧ i' ≤ j ∧ y = .int .i64 (fy i') ∧ Hid (∀ k, 1 ≤ k → k < i' + 1 → ∀ j', j' < j → ¬ fy k = fx j')) (fun _ i _ _ _ => j + 1 - (intOf i).toNat)
                case atStart => exact ⟨0, rfl, by omega, by rw [Y0s], (fun k h1 h2 => absurd h1 (by omega))⟩
                case round =>
                  obtain ⟨i, rfl, hi, rfl, NO⟩ := hrel
                  by_cases hli : i < j
                  · have hli' : (i : Int) + 1 ≤ (j : Int) := by omega
                    obtain ⟨u0, u1⟩ := YBs.out i
                    obtain ⟨v0, v1⟩ := YBs.out (i + 1)
                    obtain ⟨q0, q1⟩ := PP.out (fy i) L u0 u1 l0 l1
                    have tm := TM.out (fy i * L) q0
                    have ys := YSs.out i
                    rw [ys] at tm
                    have YY := Lib.hid ys
                    have NX : Hid ((∀ j', j' < j → ¬ fy (i + 1) = fx j') → ∀ k, 1 ≤ k → k < i + 1 + 1 → ∀ j', j' < j → ¬ fy k = fx j') := fun h k h1 h2 => by
                      by_cases e : k = i + 1
                      · subst e; exact h
                      · exact NO.out k h1 (by omega)
                    have HT := Lib.hid (fun j' hj' hm hl => HITs.out (i + 1) j' (by omega) hj' hm hl (fun k k1 k2 => NO.out k k1 k2))
                    have HA := Lib.hid (LR.out.1 (fy (i + 1)))
                    have LA := Lib.hid (fun h => Lw.lst_last (f := fx) (k := j) (z := fy (i + 1)) h)
                    have LV := Lib.hid LR.out.2
                    have FE : Hid (∀ h : ∀ j', j' < j → ¬ fy (i + 1) = fx j', True) := fun _ => trivial
                    obtain ⟨z, hz⟩ : ∃ z, fy (i + 1) = z := ⟨_, rfl⟩
                    rw [hz] at tm v0 v1 NX HT HA LA
                    obtain ⟨y, hy⟩ : ∃ y, fy i = y := ⟨_, rfl⟩
                    rw [hy] at tm u0 u1 q0 q1
                    rw [hy]
                    have HZ := Lib.hid hz
                    have wf : (Lit.int .i64 z).wf = true := Lw.wf64 (by omega) (by omega)
                    have hkey : keyOf Try.prog 2 (.int .i64 z) = some (.int .i64 z) := keyOf_int_mk Try.underlying2 wf
                    have hown := own.out
                    clear hz hy ys FE NO HITs own
                    cases hh : Maps.has D (.int .i64 z) with
                    | true =>
                      obtain ⟨j', hj1, hj2, hj3⟩ := LA.out (HA.out.1 hh)
                      have AT := Lib.hid (hj2 ▸ LV.out j' hj1 hj3 : D.atKey (.int .i64 z) (.lit (.int .i64 0)) = .lit (.int .i64 (j' : Int)))
                      have RR := HT.out j' hj1 hj2.symm hj3
                      have ij0 : 1 ≤ ((i : Int) + 1) * (j : Int) - (j' : Int) := by
                        have h1 : (1 : Int) * (j : Int) ≤ ((i : Int) + 1) * (j : Int) := Int.mul_le_mul_of_nonneg_right (by omega) (by omega)
                        omega
                      have ij1 : ((i : Int) + 1) * (j : Int) ≤ 1048576 := by
                        have h1 := (Lw.mul_bd' ((i : Int) + 1) (j : Int) 1024 (by omega) (by omega) (by omega) (by omega)).2
                        omega
                      have ij2 : 0 ≤ ((i : Int) + 1) * (j : Int) := by omega
                      have RR : Hid (r = ((i : Int) + 1) * (j : Int) - (j' : Int)) := by rw [RR]; exact rfl
                      clear NX HT HA LA LV hj2 hj3
                      go_wp2_with (first
                        | (at_lookup; refine wpList_lookup_own_ok_int _ rfl _ _ 100 rfl 2 2 .i64 lawLgw Try.underlying100 Try.underlying2 (zeroLgw _) bb j D rfl hown _ _ rfl hkey ?_; intro c hat hwc; rw [hh]; obtain rfl : c = (j' : Int) := (by rw [AT.out] at hat; injection hat with hat; injection hat with _ hat; exact hat.symm); clear hat)
                        | go_in)
                      go_ret2
                      refine ⟨?_, hB⟩
                      have := RR.out
                      subst this
                      unfold Lw.LgRes
                      rw [if_neg (by omega)]
                      rfl
                    | false =>
                      have N2 := Lib.hid (NX.out (fun j' hj' he => by have := HA.out.2 ⟨j', hj', he.symm⟩; rw [hh] at this; cases this))
                      clear NX HT HA LA LV
                      go_wp2_with (first
                        | (at_lookup; refine wpList_lookup_own_ok_int _ rfl _ _ 100 rfl 2 2 .i64 lawLgw Try.underlying100 Try.underlying2 (zeroLgw _) bb j D rfl hown _ _ rfl hkey ?_; intro c hat hwc; rw [hh]; clear hat)
                        | go_in)
                      go_round
                      case rel => exact ⟨i + 1, by go_num, by omega, by rw [HZ.out], N2.out⟩
                      case measure => simp [intOf]; omega
                  · have hli' : ¬ (i : Int) + 1 ≤ (j : Int) := by omega
                    have hij : i = j := by omega
                    have R1 := Lib.hid (MISSs.out (fun k k1 k2 => NO.out k k1 (by omega)))
                    have : r = -1 := R1.out
                    subst this
                    clear HITs MISSs NO YSs YBs Y0s
                    go_wp2_with fail
                    go_ret2
                    exact ⟨rfl, hB⟩
end Go.Proofs.Ytlgegdmnbhoepaa

/- Curves: how many spots there are: curve.Count and the reference's SpotCount. -/
import Derived.Test.YtoignifimgioaaaCrp
import Derived.Test.YtoignifimgioaaaJacr
namespace Lw
def cntC (P A B : Int) : Nat → Int
  | 0 => 1
  | k + 1 => cntC P A B k + (1 + jac (rhs P A B (k : Int)).toNat P.toNat)
def roots (P r : Int) : Nat → Int
  | 0 => 0
  | k + 1 => roots P r k + if (k : Int) * (k : Int) % P = r then 1 else 0
theorem jac_bd (a n : Nat) : -1 ≤ jac a n ∧ jac a n ≤ 1 := by
  have := jac_sgn a n
  unfold sgn at this
  omega
theorem cntC_bd (P A B : Int) : ∀ k : Nat, 1 ≤ cntC P A B k ∧ cntC P A B k ≤ 1 + 2 * (k : Int)
  | 0 => by simp [cntC]
  | k + 1 => by
    have h := cntC_bd P A B k
    have := jac_bd (rhs P A B (k : Int)).toNat P.toNat
    simp only [cntC]; omega
theorem roots_bd (P r : Int) : ∀ k : Nat, 0 ≤ roots P r k ∧ roots P r k ≤ (k : Int)
  | 0 => by simp [roots]
  | k + 1 => by
    have h := roots_bd P r k
    simp only [roots]; split <;> omega
theorem roots_none {P r : Int} : ∀ k : Nat, (∀ y : Nat, y < k → ¬ (y : Int) * (y : Int) % P = r) → roots P r k = 0
  | 0, _ => rfl
  | k + 1, h => by simp only [roots]; rw [roots_none k (fun y hy => h y (by omega)), if_neg (h k (by omega))]; rfl
theorem roots_one {P r : Int} {u : Nat} : ∀ k : Nat, (∀ y : Nat, y < k → ((y : Int) * (y : Int) % P = r ↔ y = u)) → roots P r k = if u < k then 1 else 0
  | 0, _ => rfl
  | k + 1, h => by
    simp only [roots]; rw [roots_one k (fun y hy => h y (by omega))]
    have := h k (by omega)
    by_cases hk : k = u
    · rw [if_pos (this.2 hk), if_neg (by omega), if_pos (by omega)]; rfl
    · rw [if_neg (fun e => hk (this.1 e))]
      split <;> split <;> omega
theorem roots_two {P r : Int} {u v : Nat} (huv : u ≠ v) : ∀ k : Nat, (∀ y : Nat, y < k → ((y : Int) * (y : Int) % P = r ↔ y = u ∨ y = v)) → roots P r k = (if u < k then 1 else 0) + (if v < k then 1 else 0)
  | 0, _ => rfl
  | k + 1, h => by
    simp only [roots]; rw [roots_two huv k (fun y hy => h y (by omega))]
    have := h k (by omega)
    by_cases hk : k = u ∨ k = v
    · rw [if_pos (this.2 hk)]
      rcases hk with rfl | rfl
      · rw [if_neg (by omega : ¬ k < k), if_pos (by omega : k < k + 1)]; split <;> split <;> omega
      · rw [if_neg (by omega : ¬ k < k), if_pos (by omega : k < k + 1)]; split <;> split <;> omega
    · rw [if_neg (fun e => hk (this.1 e))]
      split <;> split <;> split <;> split <;> omega
theorem roots_eq {P r : Int} (hp : primeB P = true) (h5 : 3 ≤ P) (r0 : 0 ≤ r) (r1 : r < P) : roots P r P.toNat = 1 + jac r.toNat P.toNat := by
  have hp' : Prime P.toNat := by simpa [primeB] using hp
  obtain ⟨p, rfl⟩ := Int.eq_ofNat_of_zero_le (by omega : 0 ≤ P)
  obtain ⟨b, rfl⟩ := Int.eq_ofNat_of_zero_le r0
  rw [Int.toNat_natCast] at hp' ⊢
  rw [Int.toNat_natCast]
  have ho : p % 2 = 1 := by
    rcases Nat.mod_two_eq_zero_or_one p with h | h
    · rcases hp'.dvd (Nat.dvd_of_mod_eq_zero h) with e | e <;> omega
    · exact h
  have hbp : b % p = b := Nat.mod_eq_of_lt (by omega)
  have small : ∀ z : Int, -(p : Int) < z → z < (p : Int) → z % (p : Int) = 0 → z = 0 := by
    intro z z0 z1 hz
    obtain ⟨k, hk⟩ := Int.dvd_of_emod_eq_zero hz
    rcases Int.lt_trichotomy k 0 with h | h | h
    · have : (p : Int) * k ≤ (p : Int) * (-1) := Int.mul_le_mul_of_nonneg_left (by omega) (by omega); omega
    · subst h; omega
    · have : (p : Int) * 1 ≤ (p : Int) * k := Int.mul_le_mul_of_nonneg_left (by omega) (by omega); omega
  by_cases hb : b = 0
  · subst hb
    rw [leg_zero hp' 0 (by simp)]
    rw [roots_one (u := 0) p (fun y hy => ⟨fun e => ?_, fun e => by subst e; simp⟩), if_pos (by omega)]; rfl
    rcases prime_dvd_mul hp e with h | h <;> (have := small y (by omega) (by omega) h; omega)
  · have hbz : ¬ b % p = 0 := by rw [hbp]; exact hb
    by_cases hx : ∃ x : Nat, 1 ≤ x ∧ x < p ∧ x * x % p = b % p
    · obtain ⟨x, x1, x2, x3⟩ := hx
      rw [leg_one hp' ho b x hbz x1 x2 x3]
      rw [hbp] at x3
      have x4 : (x : Int) * (x : Int) % (p : Int) = (b : Int) := by rw [← x3]; simp
      have hne : x ≠ p - x := by omega
      have key : ∀ y : Nat, y < p → ((y : Int) * (y : Int) % (p : Int) = (b : Int) ↔ y = x ∨ y = p - x) := by
        intro y hy
        constructor
        · intro e
          obtain ⟨k, hk⟩ := emod_zero_of (e.trans x4.symm)
          have : ((y : Int) - x) * ((y : Int) + x) % (p : Int) = 0 := by
            have e2 : ((y : Int) - x) * ((y : Int) + x) = 0 + (p : Int) * k := by grind
            rw [e2, Int.add_mul_emod_self_left]; rfl
          rcases prime_dvd_mul hp this with h | h
          · left; have := small _ (by omega) (by omega) h; omega
          · right
            have h2 : ((y : Int) + x - p) % (p : Int) = 0 := by
              rw [← h]; exact emod_eq_of (-1) (by omega)
            have := small _ (by omega) (by omega) h2; omega
        · rintro (rfl | rfl)
          · exact x4
          · rw [← x4]
            have : (((p - x : Nat) : Int)) = (p : Int) - x := by omega
            rw [this]
            exact emod_eq_of ((p : Int) - 2 * x) (by grind)
      rw [roots_two hne p key, if_pos x2, if_pos (by omega)]
      try rfl
    · have hno : ∀ x, 1 ≤ x → x < p → ¬ x * x % p = b % p := fun x h1 h2 h3 => hx ⟨x, h1, h2, h3⟩
      rw [leg_neg hp' ho b hbz hno, roots_none p (fun y hy e => ?_)]; rfl
      by_cases hy0 : y = 0
      · subst hy0; simp at e; omega
      · refine hno y (by omega) hy ?_
        rw [hbp]
        have : ((y * y % p : Nat) : Int) = (b : Int) := by rw [← e]; simp
        omega
theorem cntC_roots {P A B : Int} (hp : primeB P = true) (h5 : 3 ≤ P) (k : Nat) : cntC P A B k + roots P (rhs P A B (k : Int)) P.toNat = cntC P A B (k + 1) := by
  have hr : 0 ≤ rhs P A B (k : Int) ∧ rhs P A B (k : Int) < P := ⟨Int.emod_nonneg _ (by omega), Int.emod_lt_of_pos _ (by omega)⟩
  rw [roots_eq hp h5 hr.1 hr.2]; rfl
end Lw
set_option linter.unusedVariables false
set_option linter.unusedSimpArgs false
namespace Go.Proofs.Ytoignifimgioaaa
open Go.RowKit
theorem curve_Count_bad (P A B : Int) (w : World) (h : ¬ Lw.crvE P A B = 0) :
    Calls Try.prog 25 #[.agg #[.int .i64 P, .int .i64 A, .int .i64 B]] w fun e w' => e = .returned (.tuple #[.int .i64 0, .int .i64 (Lw.crvE P A B)]) ∧ Below w.heap.size w w' := by
  have S := fun w => curve_spots_bad P A B none 0 0 [] w h
  rw [Lw.spt_bad h] at S
  replace S := Lib.hid S
  have h1 : (Lw.crvE P A B == 0) = false := by simpa using h
  clear h
  go_enter Try.func25, Try.ntmps25
  go_wp2_with (go_at_call 50; (with_reducible refine (S.out _).mono ?_); rintro e w1 ⟨rfl, hb1⟩)
  go_ret2
  exact ⟨rfl, by (repeat (first | exact Below.refl _ _ | refine Lw.bt ?_ (by assumption) | refine Lw.balloc ?_ _ | refine Lw.bdrewN ?_ _ | refine Below.drew ?_ | refine Lw.bset ?_ (by first | (simp; done) | (simp; omega) | omega) _))⟩
set_option maxHeartbeats 2000000 in
theorem curve_Count_ok (P A B : Int) (w : World) (h : Lw.crvE P A B = 0) :
    Calls Try.prog 25 #[.agg #[.int .i64 P, .int .i64 A, .int .i64 B]] w fun e w' => e = .returned (.tuple #[.int .i64 (Lw.cntC P A B P.toNat), .int .i64 0]) ∧ Below w.heap.size w w' := by
  have S := fun w => curve_spots_ok P A B none 0 0 [] w (Lw.Rd.nil _ _ _) (by omega) h
  rw [Lw.spt_okV h rfl] at S
  replace S := Lib.hid S
  obtain ⟨HC, hp, _⟩ := Lw.of_crv h
  clear h
  have RT := Lib.hid (fun X w x0 x1 => curve_right P A B X w HC x0 x1)
  obtain ⟨p5, p6, -⟩ := HC
  have ho : P % 2 = 1 := by
    have hp' : Lw.Prime P.toNat := by simpa [Lw.primeB] using hp
    rcases Nat.mod_two_eq_zero_or_one P.toNat with h | h
    · rcases hp'.dvd (Nat.dvd_of_mod_eq_zero h) with e | e <;> omega
    · omega
  have OF := Lib.hid (fun a w => squares_Of a P w (by omega) (by omega) ho)
  obtain ⟨N, rfl⟩ := Int.eq_ofNat_of_zero_le (by omega : 0 ≤ P)
  have CS : Hid (∀ k, Lw.cntC (N : Int) A B (k + 1) = Lw.cntC (N : Int) A B k + (1 + Lw.jac (Lw.rhs (N : Int) A B (k : Int)).toNat (N : Int).toNat)) := fun k => rfl
  have CB := Lib.hid (Lw.cntC_bd (N : Int) A B)
  have RB := Lib.hid (fun x => (⟨Int.emod_nonneg _ (by omega), Int.emod_lt_of_pos _ (by omega)⟩ : 0 ≤ Lw.rhs (N : Int) A B x ∧ Lw.rhs (N : Int) A B x < (N : Int)))
  have JB := Lib.hid (fun a => Lw.jac_bd a (N : Int).toNat)
  have TN : Hid ((N : Int).toNat = N) := Int.toNat_natCast N
  have B0 : Hid ((w.alloc (.cells #[.int .i64 (N : Int), .int .i64 A, .int .i64 B] 32)).heap[w.heap.size]? = some (.cells #[.int .i64 (N : Int), .int .i64 A, .int .i64 B] 32 (0, 0))) := Lw.blk_new _ _ _
  clear hp
  go_enter Try.func25, Try.ntmps25
  go_wp2_with (go_at_call 50; (with_reducible refine (S.out _).mono ?_); rintro e w1 ⟨rfl, hb1⟩; have q0 := Lw.blk_cell ((hb1.block w.heap.size (by simp)).trans B0.out) 0; simp at q0; have hz1 := hb1.size; simp at hz1; have hy0 : w.heap.size < w1.heap.size := by omega)
  obtain ⟨V, hV⟩ : ∃ V, w1.alloc (.cells #[.int .i64 (N : Int), .int .i64 A, .int .i64 B] 79) = V := ⟨_, rfl⟩
  have C0 := Lib.hid (hV ▸ Lw.blk_alloc ((hb1.block w.heap.size (by simp)).trans B0.out) _)
  have C1 := Lib.hid (hV ▸ Lw.blk_new w1 #[.int .i64 (N : Int), .int .i64 A, .int .i64 B] 79)
  have hBV : Below w.heap.size w V := by rw [← hV]; exact Lw.balloc (Lw.bt (Lw.balloc (Below.refl _ _) _) hb1) _
  have hVs1 : w1.heap.size < V.heap.size := by rw [← hV]; simp
  have hVs : w.heap.size < V.heap.size := by omega
  rw [hV]
  clear hV q0
  go_loopw [6, 7, 18] (fun n a i wr => ∃ k : Nat, k ≤ N ∧ i = .int .i64 (k : Int) ∧ n = .int .i64 (Lw.cntC (N : Int) A B k) ∧ Below V.heap.size V wr) (fun _ _ i _ => N - (intOf i).toNat)
  case atStart => exact ⟨0, by omega, rfl, rfl, Below.refl _ _⟩
  case round =>
    obtain ⟨k, k1, rfl, rfl, hB⟩ := hrel
    by_cases hlt : k < N
    · have D0 := (hB.block w.heap.size hVs).trans C0.out
      have D1 := (hB.block w1.heap.size hVs1).trans C1.out
      have l0 := Lw.blk_cell D0 0; have l1 := Lw.blk_cell D0 1; have l2 := Lw.blk_cell D0 2
      have m0 := Lw.blk_cell D1 0; have m1 := Lw.blk_cell D1 1; have m2 := Lw.blk_cell D1 2
      simp at l0 l1 l2 m0 m1 m2
      have hzr := hB.size
      have hs0 : w.heap.size < wr.heap.size := by omega
      have hs1 : w1.heap.size < wr.heap.size := by omega
      have R1 := Lib.hid (fun w => RT.out (k : Int) w (by omega) (by omega))
      obtain ⟨r0, r1⟩ := RB.out (k : Int)
      have c1 := CS.out k
      have cb := CB.out k
      have O1 := fun w => OF.out (Lw.rhs (N : Int) A B (k : Int)) w
      rw [Int.emod_eq_of_lt r0 r1] at O1
      have jb := JB.out (Lw.rhs (N : Int) A B (k : Int)).toNat
      obtain ⟨j, hj⟩ : ∃ j, Lw.jac (Lw.rhs (N : Int) A B (k : Int)).toNat (N : Int).toNat = j := ⟨_, rfl⟩
      rw [hj] at O1 c1 jb
      obtain ⟨n, hn⟩ : ∃ n, Lw.cntC (N : Int) A B k = n := ⟨_, rfl⟩
      rw [hn] at c1 cb
      rw [hn]
      obtain ⟨r, hr⟩ : ∃ r, Lw.rhs (N : Int) A B (k : Int) = r := ⟨_, rfl⟩
      rw [hr] at R1 O1
      replace O1 := Lib.hid O1
      have c2 := Lib.hid c1
      obtain ⟨j0, j1⟩ := jb
      obtain ⟨n0, n1⟩ := cb
      have e1 : IntKind.i64.wrap (1 + j) = 1 + j := by rw [IntKind.wrap_i64]; omega
      have e2 : IntKind.i64.wrap (n + (1 + j)) = n + (1 + j) := by rw [IntKind.wrap_i64]; omega
      clear c1 D0 D1 hn hr hj
      go_wp2_with fail
      refine wp_region_held_drew (S := Lw.Sm wr) (by kernel_rfl) (Lw.sm_drew wr) (fun hHeld => ?_)
      (refine Lw.take1 (i := 0) (v := ?_) rfl (by kernel_rfl) (by kernel_rfl) (by kernel_rfl) (fun _ _ _ h => h) (Or.inl ⟨by rfl, ?_⟩) (by assumption) ?_; rotate_left 1; (focus (intro wS hSw; obtain ⟨hS1, hS2, hS3, hS4⟩ := hSw; go_simp <;> with_reducible rfl)); (try simp only [Act.put, List.setIfInBounds_toArray, List.set_cons_zero, List.set_cons_succ]))
      (refine Lw.take1 (i := 1) (v := ?_) rfl (by kernel_rfl) (by kernel_rfl) (by kernel_rfl) (fun _ _ _ h => h) (Or.inl ⟨by rfl, ?_⟩) (by assumption) ?_; rotate_left 1; (focus (intro wS hSw; obtain ⟨hS1, hS2, hS3, hS4⟩ := hSw; go_simp <;> with_reducible rfl)); (try simp only [Act.put, List.setIfInBounds_toArray, List.set_cons_zero, List.set_cons_succ]))
      (refine Lw.take1 (i := 2) (v := ?_) rfl (by kernel_rfl) (by kernel_rfl) (by kernel_rfl) (fun _ _ _ h => h) (Or.inl ⟨by rfl, ?_⟩) (by assumption) ?_; rotate_left 1; (focus (intro wS hSw; obtain ⟨hS1, hS2, hS3, hS4⟩ := hSw; go_simp <;> with_reducible rfl)); (try simp only [Act.put, List.setIfInBounds_toArray, List.set_cons_zero, List.set_cons_succ]))
      (refine Lw.take1 (i := 4) (v := ?_) rfl (by kernel_rfl) (by kernel_rfl) (by kernel_rfl) (fun _ _ _ h => h) (Or.inl ⟨by rfl, ?_⟩) (by assumption) ?_; rotate_left 1; (focus (intro wS hSw; obtain ⟨hS1, hS2, hS3, hS4⟩ := hSw; go_simp <;> with_reducible rfl)); (try simp only [Act.put, List.setIfInBounds_toArray, List.set_cons_zero, List.set_cons_succ]))
      (refine Lw.take1 (i := 5) (v := ?_) rfl (by kernel_rfl) (by kernel_rfl) (by kernel_rfl) (fun _ _ _ h => h) (Or.inl ⟨by rfl, ?_⟩) (by assumption) ?_; rotate_left 1; (focus (intro wS hSw; obtain ⟨hS1, hS2, hS3, hS4⟩ := hSw; go_simp <;> with_reducible rfl)); (try simp only [Act.put, List.setIfInBounds_toArray, List.set_cons_zero, List.set_cons_succ]))
      (refine wpAnyH_ready (rs := [3]) (by kernel_rfl) (by simp) ?_; refine Lw.cons1 (i := 3) rfl (fun K hK => ?_) AllReadyH.nil; go_simp; go_at_call 54; (with_reducible refine (R1.out _).mono ?_); rintro e wx ⟨rfl, hbx⟩; refine hK.out _ _ ?_ (fun hHeld => ?_); (focus exact Lw.sm_keep (Lw.sm_drew wr) hbx); clear hK K; (try simp only [Act.put, List.setIfInBounds_toArray, List.set_cons_zero, List.set_cons_succ]))
      (refine wpAnyH_ready (rs := [6]) (by kernel_rfl) (by simp) ?_; refine Lw.cons1 (i := 6) rfl (fun K hK => ?_) AllReadyH.nil; go_simp; go_at_call 53; (with_reducible refine (O1.out _).mono ?_); rintro e wy ⟨rfl, rfl⟩; refine hK.out _ _ ?_ (fun hHeld => ?_); (focus exact Lw.sm_keep (Lw.sm_drew wr) hbx); clear hK K; (try simp only [Act.put, List.setIfInBounds_toArray, List.set_cons_zero, List.set_cons_succ]))
      (refine Lw.take1 (i := 7) (v := ?_) rfl (by kernel_rfl) (by kernel_rfl) (by kernel_rfl) (fun _ _ _ h => h) (Or.inl ⟨by rfl, ?_⟩) (by assumption) ?_; rotate_left 1; (focus (intro wS hSw; obtain ⟨hS1, hS2, hS3, hS4⟩ := hSw; go_simp <;> with_reducible rfl)); (try simp only [Act.put, List.setIfInBounds_toArray, List.set_cons_zero, List.set_cons_succ]))
      (refine Lw.take1 (i := 8) (v := ?_) rfl (by kernel_rfl) (by kernel_rfl) (by kernel_rfl) (fun _ _ _ h => h) (Or.inl ⟨by rfl, ?_⟩) (by assumption) ?_; rotate_left 1; (focus (intro wS hSw; obtain ⟨hS1, hS2, hS3, hS4⟩ := hSw; go_simp <;> with_reducible rfl)); (try simp only [Act.put, List.setIfInBounds_toArray, List.set_cons_zero, List.set_cons_succ]))
      (refine Lw.take1 (i := 9) (v := ?_) rfl (by kernel_rfl) (by kernel_rfl) (by kernel_rfl) (fun _ _ _ h => h) (Or.inl ⟨by rfl, ?_⟩) (by assumption) ?_; rotate_left 1; (focus (intro wS hSw; obtain ⟨hS1, hS2, hS3, hS4⟩ := hSw; go_simp <;> with_reducible rfl)); (try simp only [Act.put, List.setIfInBounds_toArray, List.set_cons_zero, List.set_cons_succ]))
      refine wpAnyH_done (by kernel_rfl) ?_ _
      have hS := Lw.sm_keep (Lw.sm_drew wr) hbx
      go_wp2
      go_roundw
      case rel => exact ⟨k + 1, by omega, by go_num, by rw [c2.out], Lw.bt hB hS.2.2.2⟩
      case measure => simp [intOf]; omega
    · obtain rfl : k = N := by omega
      go_wp2
      go_ret2
      exact ⟨by rw [TN.out]; rfl, Lw.bt hBV hB⟩
set_option maxHeartbeats 2000000 in
theorem ref_SpotCount (P A B : Int) (w : World) (h : Lw.crvE P A B = 0) :
    Calls Try.prog 26 #[.agg #[.int .i64 P, .int .i64 A, .int .i64 B]] w fun e w' => e = .returned (.int .i64 (Lw.cntC P A B P.toNat)) ∧ Below w.heap.size w w' := by
  obtain ⟨HC, hp, _⟩ := Lw.of_crv h
  clear h
  have SP := Lib.hid (fun X Y w => ref_Spot P A B X Y false w HC)
  obtain ⟨p5, p6, -⟩ := HC
  obtain ⟨N, rfl⟩ := Int.eq_ofNat_of_zero_le (by omega : 0 ≤ P)
  have CR := fun k => Lw.cntC_roots (A := A) (B := B) hp (by omega) k
  simp only [Int.toNat_natCast] at CR
  replace CR := Lib.hid CR
  have CB := Lib.hid (Lw.cntC_bd (N : Int) A B)
  have RB := Lib.hid (fun r => Lw.roots_bd (N : Int) r)
  have RS : Hid (∀ r k, Lw.roots (N : Int) r (k + 1) = Lw.roots (N : Int) r k + if (k : Int) * (k : Int) % (N : Int) = r then 1 else 0) := fun r k => rfl
  have SB : Hid (∀ x y : Nat, x < N → y < N → Lw.spotB (N : Int) A B x y false = decide ((y : Int) * (y : Int) % (N : Int) = Lw.rhs (N : Int) A B x)) := fun x y hx hy => by
    unfold Lw.spotB
    rw [if_neg (by simp)]
    have : Lw.inP (N : Int) x y := ⟨by omega, by omega, by omega, by omega⟩
    simp [this]
  have TN : Hid ((N : Int).toNat = N) := Int.toNat_natCast N
  obtain ⟨W, hW⟩ : ∃ W, w.alloc (.cells #[.int .i64 (N : Int), .int .i64 A, .int .i64 B] 32) = W := ⟨_, rfl⟩
  have B0 := Lib.hid (show W.heap[w.heap.size]? = some (.cells #[.int .i64 (N : Int), .int .i64 A, .int .i64 B] 32 (0, 0)) from hW ▸ Lw.blk_new _ _ _)
  have hBW : Below w.heap.size w W := by rw [← hW]; exact Lw.balloc (Below.refl _ _) _
  have hWs : w.heap.size < W.heap.size := by rw [← hW]; simp
  have HW := Lib.hid hW
  clear hW hp
  go_enter Try.func26, Try.ntmps26
  go_wp2
  rw [HW.out]
  clear HW
  go_loopw [3, 4, 5] (fun n i y wr => ∃ k : Nat, k ≤ N ∧ i = .int .i64 (k : Int) ∧ n = .int .i64 (Lw.cntC (N : Int) A B k) ∧ Below W.heap.size W wr) (fun _ i _ _ => N - (intOf i).toNat)
  case atStart => exact ⟨0, by omega, rfl, rfl, Below.refl _ _⟩
  case round =>
    obtain ⟨k, k1, rfl, rfl, hB⟩ := hrel
    have D0 := (hB.block w.heap.size hWs).trans B0.out
    have l0 := Lw.blk_cell D0 0
    simp at l0
    have hzr := hB.size
    by_cases hlt : k < N
    · have CR1 := Lib.hid (CR.out k)
      have cb := CB.out k
      obtain ⟨n, hn⟩ : ∃ n, Lw.cntC (N : Int) A B k = n := ⟨_, rfl⟩
      rw [hn] at CR1 cb
      rw [hn]
      obtain ⟨n0, n1⟩ := cb
      clear hn D0
      go_wp2
      have RS1 := Lib.hid (RS.out (Lw.rhs (N : Int) A B (k : Int)))
      have RB1 := Lib.hid (RB.out (Lw.rhs (N : Int) A B (k : Int)))
      have SB1 := Lib.hid (fun y hy => SB.out k y hlt hy)
      have SP1 := Lib.hid (fun Y w => SP.out (k : Int) Y w)
      obtain ⟨r, hr⟩ : ∃ r, Lw.rhs (N : Int) A B (k : Int) = r := ⟨_, rfl⟩
      rw [hr] at RS1 RB1 SB1 CR1
      have R0 : Hid (Lw.roots (N : Int) r 0 = 0) := rfl
      go_loopw [3, 5] (fun m i wt => ∃ j : Nat, j ≤ N ∧ i = .int .i64 (j : Int) ∧ m = .int .i64 (n + Lw.roots (N : Int) r j) ∧ Below W.heap.size W wt) (fun _ i _ => N - (intOf i).toNat)
      case atStart => exact ⟨0, by omega, rfl, by rw [R0.out, Int.add_zero], hB⟩
      case round =>
        clear l0 hzr
        obtain ⟨j, j1, rfl, rfl, hB2⟩ := hrel
        have D0 := (hB2.block w.heap.size hWs).trans B0.out
        have l0 := Lw.blk_cell D0 0; have l1 := Lw.blk_cell D0 1; have l2 := Lw.blk_cell D0 2
        simp at l0 l1 l2
        have hzr := hB2.size
        have rb := RB1.out j
        have rs := Lib.hid (RS1.out j)
        obtain ⟨m, hm⟩ : ∃ m, Lw.roots (N : Int) r j = m := ⟨_, rfl⟩
        rw [hm] at rb rs
        rw [hm]
        obtain ⟨m0, m1⟩ := rb
        clear D0
        by_cases hlj : j < N
        · have sb := SB1.out j hlj
          have S1 := fun w => SP1.out (j : Int) w
          by_cases he : (j : Int) * (j : Int) % (N : Int) = r
          · rw [decide_eq_true he] at sb
            rw [sb] at S1
            replace S1 := Lib.hid S1
            have rs1 := Lib.hid (rs.out.trans (by rw [if_pos he]))
            clear sb he hm
            go_wp2_with (go_at_call 52; (with_reducible refine (S1.out _).mono ?_); rintro e w5 ⟨rfl, hb5⟩)
            go_roundw
            case rel => exact ⟨j + 1, by omega, by go_num, by rw [rs1.out]; go_num, Lw.bt hB2 hb5⟩
            case measure => simp [intOf]; omega
          · rw [decide_eq_false he] at sb
            rw [sb] at S1
            replace S1 := Lib.hid S1
            have rs1 := Lib.hid (rs.out.trans (by rw [if_neg he]))
            clear sb he hm
            go_wp2_with (go_at_call 52; (with_reducible refine (S1.out _).mono ?_); rintro e w5 ⟨rfl, hb5⟩)
            go_roundw
            case rel => exact ⟨j + 1, by omega, by go_num, by rw [rs1.out]; go_num, Lw.bt hB2 hb5⟩
            case measure => simp [intOf]; omega
        · obtain rfl : j = N := by omega
          have CR2 := CR1.out
          rw [hm] at CR2
          replace CR2 := Lib.hid CR2
          clear hm
          go_wp2
          go_roundw
          case rel => exact ⟨k + 1, by omega, by go_num, by rw [← CR2.out], hB2⟩
          case measure => simp [intOf]; omega
    · obtain rfl : k = N := by omega
      clear D0
      go_wp2
      go_ret
      exact ⟨by rw [TN.out]; rfl, Lw.bt hBW hB⟩
end Go.Proofs.Ytoignifimgioaaa

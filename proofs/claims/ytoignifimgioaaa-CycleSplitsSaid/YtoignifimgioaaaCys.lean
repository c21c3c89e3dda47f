/- cycle.Split and the reference's CycleSplit. -/
import Derived.Test.YtoignifimgioaaaCyo
import Derived.Test.YtoignifimgioaaaEuc
namespace Lw
/-- what two of the numbers have in common with n: those behind t and 2t steps -/
def spl (c n x : Int) (t : Nat) : Int := gcdI (itI (c % n) n (x % n) t - itI (c % n) n (x % n) (2 * t)) n
theorem gcdI_zero_left' {n : Int} (h : 0 ≤ n) : gcdI 0 n = n := by rw [gcdI_zero_left]; unfold absI; omega
theorem least_of {P : Nat → Prop} : ∀ t, P t → ∃ s, s ≤ t ∧ P s ∧ ∀ j, j < s → ¬ P j := by
  intro t
  induction t using Nat.strongRecOn with
  | ind t ih =>
    intro h
    by_cases hx : ∃ j, j < t ∧ P j
    · obtain ⟨j, j1, j2⟩ := hx
      obtain ⟨s, s1, s2⟩ := ih j j1 j2
      exact ⟨s, by omega, s2⟩
    · exact ⟨t, Nat.le_refl _, h, fun j hj hp => hx ⟨j, hj, hp⟩⟩
theorem ex_spl (c x : Int) {n : Int} (h : 2 ≤ n) : ∃ t : Nat, 1 ≤ t ∧ (t : Int) ≤ n ∧ 1 < spl c n x t ∧ ∀ j, 1 ≤ j → j < t → ¬ 1 < spl c n x j := by
  obtain ⟨t, t1, t2, t3⟩ := seq_meet (c := c % n) (n := n) (x := x % n) (by omega) (Int.emod_nonneg x (by omega)) (Int.emod_lt_of_pos x (by omega))
  have h0 : 1 ≤ t ∧ 1 < spl c n x t := by
    refine ⟨t1, ?_⟩
    unfold spl
    rw [← t3, Int.sub_self, gcdI_zero_left' (by omega)]
    omega
  obtain ⟨s, s1, s2, s3⟩ := least_of (P := fun t => 1 ≤ t ∧ 1 < spl c n x t) t h0
  exact ⟨s, s2.1, by omega, s2.2, fun j j1 j2 j3 => s3 j j2 ⟨j1, j3⟩⟩
end Lw
set_option linter.unusedVariables false
set_option linter.unusedSimpArgs false
namespace Go.Proofs.Ytoignifimgioaaa
open Go.RowKit
set_option maxHeartbeats 2000000 in
theorem cycle_Split_ok (c n x : Int) (w : World) (hc : Lw.farB c = false) (hx : Lw.farB x = false) (h1 : 2 ≤ n) (h2 : n ≤ 1048576) (t : Nat) (t1 : 1 ≤ t) (t2 : (t : Int) ≤ n)
    (hT : 1 < Lw.spl c n x t) (hN : ∀ j, 1 ≤ j → j < t → ¬ 1 < Lw.spl c n x j) :
    Calls Try.prog 20 #[.int .i64 c, .int .i64 n, .int .i64 x] w fun e w' => e = .returned (.tuple #[.int .i64 (t : Int), .int .i64 (Lw.spl c n x t), .int .i64 0]) ∧ Below w.heap.size w w' := by
  have hn1 : (n == 1) = false := by simp; omega
  have HC := Lib.hid hc; have HX := Lib.hid hx; have HT := Lib.hid hT; have HN := Lib.hid hN
  clear hc hx hT hN
  have hz : ¬ n = 0 := by omega
  obtain ⟨C, hC⟩ : ∃ C, c % n = C := ⟨_, rfl⟩
  have c0 := Int.emod_nonneg c hz; have c1 := Int.emod_lt_of_pos c (by omega : 0 < n)
  have x0 := Int.emod_nonneg x hz; have x1 := Int.emod_lt_of_pos x (by omega : 0 < n)
  have HI := Lib.hid (fun j => Lw.itI_bd (c := c % n) (x := x % n) (by omega : 0 < n) x0 x1 j)
  have OP := Lib.hid (fun w => cycle_open_ok c n x w HC.out HX.out (by omega) h2)
  have GC := Lib.hid (fun (a : Int) (w : World) (ha : Lw.farB a = false) => euclid_Gcd a n w ha (Lw.farB_false (by omega)))
  have X0 : Hid (Lw.itI (c % n) n (x % n) 0 = x % n) := rfl
  have SP : Hid (∀ t, Lw.spl c n x t = Lw.gcdI (Lw.itI (c % n) n (x % n) t - Lw.itI (c % n) n (x % n) (2 * t)) n) := fun _ => rfl
  have S1 : Hid (∀ t, Lw.itI (c % n) n (x % n) (t + 1) = Lw.nxI (c % n) n (Lw.itI (c % n) n (x % n) t)) := fun _ => rfl
  have S2 : Hid (∀ t, Lw.itI (c % n) n (x % n) (2 * (t + 1)) = Lw.nxI (c % n) n (Lw.nxI (c % n) n (Lw.itI (c % n) n (x % n) (2 * t)))) := fun _ => Lw.itI_two _ _ _ _
  have NB := Lib.hid (fun y => Lw.nxI_bd (by omega : 0 < n) (c % n) y)
  have NX := Lib.hid (fun (y : Int) (w : World) (y0 : 0 ≤ y) (y1 : y < n) => cycle_next (c % n) n y w (by omega) (by omega) c0 c1 y0 y1)
  clear c0 c1 x0 x1
  rw [hC] at *
  clear hC
  obtain ⟨X, hX⟩ : ∃ X, x % n = X := ⟨_, rfl⟩
  rw [hX] at *
  clear hX
  go_enter Try.func20, Try.ntmps20
  go_wp2_with (go_at_call 43; (with_reducible refine (OP.out _).mono ?_); rintro e w1 ⟨rfl, hb1⟩)
  obtain ⟨W, hW⟩ : ∃ W, w1.alloc (.cells #[.int .i64 C, .int .i64 n] 69) = W := ⟨_, rfl⟩
  have B0 := Lib.hid (show W.heap[w1.heap.size]? = some (.cells #[.int .i64 C, .int .i64 n] 69 (0, 0)) from hW ▸ Lw.blk_new _ _ _)
  have hBW : Below w.heap.size w W := by rw [← hW]; exact Lw.balloc hb1 _
  have hWs : w1.heap.size < W.heap.size := by rw [← hW]; simp
  rw [hW]
  clear hW
  go_loopw [11, 12, 13] (fun a b i wr => ∃ k : Nat, k + 1 ≤ t ∧ a = .int .i64 (Lw.itI C n (x % n) k) ∧ b = .int .i64 (Lw.itI C n (x % n) (2 * k)) ∧ i = .int .i64 ((k : Int) + 1) ∧ Below W.heap.size W wr) (fun _ _ i _ => t + 1 - (intOf i).toNat)
  case atStart => exact ⟨0, by omega, by rw [X0.out], by rw [Nat.mul_zero, X0.out], rfl, Below.refl _ _⟩
  case round =>
    obtain ⟨k, k1, rfl, rfl, rfl, hB⟩ := hrel
    have B1 := (hB.block w1.heap.size hWs).trans B0.out
    have l0 := Lw.blk_cell B1 0; have l1 := Lw.blk_cell B1 1
    simp at l0 l1
    have hzr := hB.size
    have hlt : w1.heap.size < wr.heap.size := by omega
    have e1 := Lib.hid (S1.out k); have e2 := Lib.hid (S2.out k); have e3 := Lib.hid (SP.out (k + 1))
    obtain ⟨a0, a1⟩ := HI.out k
    obtain ⟨b0, b1⟩ := HI.out (2 * k)
    obtain ⟨a2, a3⟩ := HI.out (k + 1)
    obtain ⟨b2, b3⟩ := HI.out (2 * (k + 1))
    obtain ⟨m0, m1⟩ := NB.out (Lw.itI C n (x % n) (2 * k))
    obtain ⟨a, ha⟩ : ∃ a, Lw.itI C n (x % n) k = a := ⟨_, rfl⟩
    obtain ⟨b, hb⟩ : ∃ b, Lw.itI C n (x % n) (2 * k) = b := ⟨_, rfl⟩
    obtain ⟨a', ha'⟩ : ∃ a, Lw.itI C n (x % n) (k + 1) = a := ⟨_, rfl⟩
    obtain ⟨b', hb'⟩ : ∃ b, Lw.itI C n (x % n) (2 * (k + 1)) = b := ⟨_, rfl⟩
    rw [ha] at a0 a1 e1
    rw [hb] at b0 b1 e2 m0 m1
    rw [ha'] at a2 a3 e1 e3
    rw [hb'] at b2 b3 e2 e3
    rw [ha, hb]
    have e1 := e1.out; have e2 := e2.out
    have N1 := Lib.hid (NX.out a · a0 a1)
    have N2 := Lib.hid (NX.out b · b0 b1)
    have N3 := Lib.hid (NX.out (Lw.nxI C n b) · m0 m1)
    rw [← e2] at N3
    rw [← e1] at N1
    obtain ⟨m, hm⟩ : ∃ m, Lw.nxI C n b = m := ⟨_, rfl⟩
    rw [hm] at N2 N3 m0 m1
    clear hm e1 e2
    go_wp2_with fail
    refine wp_region_held_drew (S := Lw.Sm wr) (by kernel_rfl) (Lw.sm_drew wr) (fun hHeld => ?_)
    (refine Lw.take1 (i := 0) (v := ?_) rfl (by kernel_rfl) (by kernel_rfl) (by kernel_rfl) (fun _ _ _ h => h) (Or.inl ⟨by rfl, ?_⟩) (by assumption) ?_; rotate_left 1; (focus (intro wS hSw; obtain ⟨hS1, hS2, hS3, hS4⟩ := hSw; go_simp <;> with_reducible rfl)); (try simp only [Act.put, List.setIfInBounds_toArray, List.set_cons_zero, List.set_cons_succ]))
    (refine Lw.take1 (i := 1) (v := ?_) rfl (by kernel_rfl) (by kernel_rfl) (by kernel_rfl) (fun _ _ _ h => h) (Or.inl ⟨by rfl, ?_⟩) (by assumption) ?_; rotate_left 1; (focus (intro wS hSw; obtain ⟨hS1, hS2, hS3, hS4⟩ := hSw; go_simp <;> with_reducible rfl)); (try simp only [Act.put, List.setIfInBounds_toArray, List.set_cons_zero, List.set_cons_succ]))
    (refine Lw.take1 (i := 3) (v := ?_) rfl (by kernel_rfl) (by kernel_rfl) (by kernel_rfl) (fun _ _ _ h => h) (Or.inl ⟨by rfl, ?_⟩) (by assumption) ?_; rotate_left 1; (focus (intro wS hSw; obtain ⟨hS1, hS2, hS3, hS4⟩ := hSw; go_simp <;> with_reducible rfl)); (try simp only [Act.put, List.setIfInBounds_toArray, List.set_cons_zero, List.set_cons_succ]))
    (refine Lw.take1 (i := 4) (v := ?_) rfl (by kernel_rfl) (by kernel_rfl) (by kernel_rfl) (fun _ _ _ h => h) (Or.inl ⟨by rfl, ?_⟩) (by assumption) ?_; rotate_left 1; (focus (intro wS hSw; obtain ⟨hS1, hS2, hS3, hS4⟩ := hSw; go_simp <;> with_reducible rfl)); (try simp only [Act.put, List.setIfInBounds_toArray, List.set_cons_zero, List.set_cons_succ]))
    (refine Lw.take1 (i := 5) (v := ?_) rfl (by kernel_rfl) (by kernel_rfl) (by kernel_rfl) (fun _ _ _ h => h) (Or.inl ⟨by rfl, ?_⟩) (by assumption) ?_; rotate_left 1; (focus (intro wS hSw; obtain ⟨hS1, hS2, hS3, hS4⟩ := hSw; go_simp <;> with_reducible rfl)); (try simp only [Act.put, List.setIfInBounds_toArray, List.set_cons_zero, List.set_cons_succ]))
    (refine wpAnyH_ready (rs := [2]) (by kernel_rfl) (by simp) ?_; refine Lw.cons1 (i := 2) rfl (fun K hK => ?_) AllReadyH.nil; go_simp; go_at_call 44; (with_reducible refine (N1.out _).mono ?_); rintro e wx ⟨rfl, hbx⟩; refine hK.out _ _ ?_ (fun hHeld => ?_); (focus exact Lw.sm_keep (Lw.sm_drew wr) hbx); clear hK K; (try simp only [Act.put, List.setIfInBounds_toArray, List.set_cons_zero, List.set_cons_succ]))
    (refine wpAnyH_ready (rs := [6]) (by kernel_rfl) (by simp) ?_; refine Lw.cons1 (i := 6) rfl (fun K hK => ?_) AllReadyH.nil; go_simp; go_at_call 44; (with_reducible refine (N2.out _).mono ?_); rintro e wy ⟨rfl, hby⟩; refine hK.out _ _ ?_ (fun hHeld => ?_); (focus exact Lw.sm_keep (Lw.sm_keep (Lw.sm_drew wr) hbx) hby); clear hK K; (try simp only [Act.put, List.setIfInBounds_toArray, List.set_cons_zero, List.set_cons_succ]))
    (refine wpAnyH_ready (rs := [7]) (by kernel_rfl) (by simp) ?_; refine Lw.cons1 (i := 7) rfl (fun K hK => ?_) AllReadyH.nil; go_simp; go_at_call 44; (with_reducible refine (N3.out _).mono ?_); rintro e wz ⟨rfl, hbz⟩; refine hK.out _ _ ?_ (fun hHeld => ?_); (focus exact Lw.sm_keep (Lw.sm_keep (Lw.sm_keep (Lw.sm_drew wr) hbx) hby) hbz); clear hK K; (try simp only [Act.put, List.setIfInBounds_toArray, List.set_cons_zero, List.set_cons_succ]))
    (refine Lw.take1 (i := 8) (v := ?_) rfl (by kernel_rfl) (by kernel_rfl) (by kernel_rfl) (fun _ _ _ h => h) (Or.inl ⟨by rfl, ?_⟩) (by assumption) ?_; rotate_left 1; (focus (intro wS hSw; obtain ⟨hS1, hS2, hS3, hS4⟩ := hSw; go_simp <;> with_reducible rfl)); (try simp only [Act.put, List.setIfInBounds_toArray, List.set_cons_zero, List.set_cons_succ]))
    (refine Lw.take1 (i := 9) (v := ?_) rfl (by kernel_rfl) (by kernel_rfl) (by kernel_rfl) (fun _ _ _ h => h) (Or.inl ⟨by rfl, ?_⟩) (by assumption) ?_; rotate_left 1; (focus (intro wS hSw; obtain ⟨hS1, hS2, hS3, hS4⟩ := hSw; go_simp <;> with_reducible rfl)); (try simp only [Act.put, List.setIfInBounds_toArray, List.set_cons_zero, List.set_cons_succ]))
    refine wpAnyH_done (by kernel_rfl) ?_ _
    have hS := Lw.sm_keep (Lw.sm_keep (Lw.sm_keep (Lw.sm_drew wr) hbx) hby) hbz
    have G := Lib.hid (GC.out (a' - b') · (Lw.farB_false (by omega)))
    rw [← e3.out] at G
    by_cases hk : k + 1 = t
    · subst hk
      have ht := HT.out
      go_wp2_with (go_at_call 49; (with_reducible refine (G.out _).mono ?_); rintro e w5 ⟨rfl, hb5⟩)
      go_ret3
      exact ⟨by go_num, Lw.bt (Lw.bt hBW (Lw.bt hB hS.2.2.2)) hb5⟩
    · have ht := HN.out (k + 1) (by omega) (by omega)
      go_wp2_with (go_at_call 49; (with_reducible refine (G.out _).mono ?_); rintro e w5 ⟨rfl, hb5⟩)
      go_roundw
      case rel => exact ⟨k + 1, by omega, by rw [ha'], by rw [hb'], by go_num, Lw.bt (Lw.bt hB hS.2.2.2) hb5⟩
      case measure => simp [intOf]; omega
theorem cycle_Split_bad (c n x : Int) (w : World) (h : Lw.firstI (Lw.bothI c x) (Lw.modI n) ≠ 0) :
    Calls Try.prog 20 #[.int .i64 c, .int .i64 n, .int .i64 x] w fun e w' => e = .returned (.tuple #[.int .i64 0, .int .i64 0, .int .i64 2]) ∧ Below w.heap.size w w' := by
  have OP := Lib.hid (fun w => cycle_open_bad c n x w h)
  clear h
  go_enter Try.func20, Try.ntmps20
  go_wp2_with (go_at_call 43; (with_reducible refine (OP.out _).mono ?_); rintro e w1 ⟨rfl, hb1⟩)
  go_ret3
  exact ⟨rfl, by (repeat (first | exact Below.refl _ _ | refine Lw.bt ?_ (by assumption) | refine Lw.balloc ?_ _ | refine Lw.bdrewN ?_ _ | refine Below.drew ?_ | refine Lw.bset ?_ (by first | (simp; done) | (simp; omega) | omega) _))⟩
theorem cycle_Split_one (c x : Int) (w : World) (hc : Lw.farB c = false) (hx : Lw.farB x = false) :
    Calls Try.prog 20 #[.int .i64 c, .int .i64 1, .int .i64 x] w fun e w' => e = .returned (.tuple #[.int .i64 0, .int .i64 0, .int .i64 5]) ∧ Below w.heap.size w w' := by
  have OP := Lib.hid (fun w => cycle_open_ok c 1 x w hc hx (by omega) (by omega))
  clear hc hx
  go_enter Try.func20, Try.ntmps20
  go_wp2_with (go_at_call 43; (with_reducible refine (OP.out _).mono ?_); rintro e w1 ⟨rfl, hb1⟩)
  go_ret3
  exact ⟨rfl, by (repeat (first | exact Below.refl _ _ | refine Lw.bt ?_ (by assumption) | refine Lw.balloc ?_ _ | refine Lw.bdrewN ?_ _ | refine Below.drew ?_ | refine Lw.bset ?_ (by first | (simp; done) | (simp; omega) | omega) _))⟩
set_option maxHeartbeats 1000000 in
theorem ref_CycleSplit (c n x : Int) (w : World) (h1 : 2 ≤ n) (h2 : n ≤ 1048576) (t : Nat) (t1 : 1 ≤ t) (t2 : (t : Int) ≤ n)
    (hT : 1 < Lw.spl c n x t) (hN : ∀ j, 1 ≤ j → j < t → ¬ 1 < Lw.spl c n x j) :
    Calls Try.prog 21 #[.int .i64 c, .int .i64 n, .int .i64 x] w fun e w' => e = .returned (.tuple #[.int .i64 (t : Int), .int .i64 (Lw.spl c n x t)]) ∧ ∃ d, w' = w.drewN d := by
  have HT := Lib.hid hT; have HN := Lib.hid hN
  clear hT hN
  have hz : ¬ n = 0 := by omega
  have x0 := Int.emod_nonneg x hz; have x1 := Int.emod_lt_of_pos x (by omega : 0 < n)
  have HI := Lib.hid (fun j => Lw.itI_bd (c := c % n) (x := x % n) (by omega : 0 < n) x0 x1 j)
  have WK1 := Lib.hid (show ∀ (y : Int) (w : World), 0 ≤ y → y < n → Calls Try.prog 47 #[.int .i64 c, .int .i64 n, .int .i64 y, .int .i64 1] w (fun e w' => e = .returned (.int .i64 (Lw.itI (c % n) n y 1)) ∧ ∃ d, w' = w.drewN d) from fun y w y0 y1 => by have := ref_Walk c n y 1 w (by omega) h2 (by omega); rw [Int.emod_eq_of_lt y0 y1] at this; exact this)
  have WK2 := Lib.hid (show ∀ (y : Int) (w : World), 0 ≤ y → y < n → Calls Try.prog 47 #[.int .i64 c, .int .i64 n, .int .i64 y, .int .i64 2] w (fun e w' => e = .returned (.int .i64 (Lw.itI (c % n) n y 2)) ∧ ∃ d, w' = w.drewN d) from fun y w y0 y1 => by have := ref_Walk c n y 2 w (by omega) h2 (by omega); rw [Int.emod_eq_of_lt y0 y1] at this; exact this)
  have X0 : Hid (Lw.itI (c % n) n (x % n) 0 = x % n) := rfl
  have SP : Hid (∀ t, Lw.spl c n x t = Lw.gcdI (Lw.itI (c % n) n (x % n) t - Lw.itI (c % n) n (x % n) (2 * t)) n) := fun _ => rfl
  have S1 : Hid (∀ t, Lw.itI (c % n) n (x % n) (t + 1) = Lw.itI (c % n) n (Lw.itI (c % n) n (x % n) t) 1) := fun _ => rfl
  have S2 : Hid (∀ t, Lw.itI (c % n) n (x % n) (2 * (t + 1)) = Lw.itI (c % n) n (Lw.itI (c % n) n (x % n) (2 * t)) 2) := fun _ => Lw.itI_two _ _ _ _
  clear x0 x1
  go_enter Try.func21, Try.ntmps21
  go_wp2_with (go_at_call 31; refine (ref_Mod _ _ _ (by omega) (by omega)).mono ?_; rintro e w' ⟨rfl, rfl⟩)
  go_loopw [8, 9, 10] (fun a b i wr => ∃ k : Nat, k + 1 ≤ t ∧ a = .int .i64 (Lw.itI (c % n) n (x % n) k) ∧ b = .int .i64 (Lw.itI (c % n) n (x % n) (2 * k)) ∧ i = .int .i64 ((k : Int) + 1) ∧ ∃ d, wr = w.drewN d) (fun _ _ i _ => t + 1 - (intOf i).toNat)
  case atStart => exact ⟨0, by omega, by rw [X0.out], by rw [Nat.mul_zero, X0.out], rfl, 0, rfl⟩
  case round =>
    obtain ⟨k, k1, rfl, rfl, rfl, d, rfl⟩ := hrel
    have e1 := S1.out k; have e2 := S2.out k; have e3 := Lib.hid (SP.out (k + 1))
    obtain ⟨a0, a1⟩ := HI.out k
    obtain ⟨b0, b1⟩ := HI.out (2 * k)
    obtain ⟨a2, a3⟩ := HI.out (k + 1)
    obtain ⟨b2, b3⟩ := HI.out (2 * (k + 1))
    obtain ⟨a, ha⟩ : ∃ a, Lw.itI (c % n) n (x % n) k = a := ⟨_, rfl⟩
    obtain ⟨b, hb⟩ : ∃ b, Lw.itI (c % n) n (x % n) (2 * k) = b := ⟨_, rfl⟩
    obtain ⟨a', ha'⟩ : ∃ a, Lw.itI (c % n) n (x % n) (k + 1) = a := ⟨_, rfl⟩
    obtain ⟨b', hb'⟩ : ∃ b, Lw.itI (c % n) n (x % n) (2 * (k + 1)) = b := ⟨_, rfl⟩
    rw [ha] at a0 a1 e1
    rw [hb] at b0 b1 e2
    rw [ha'] at a2 a3 e1 e3
    rw [hb'] at b2 b3 e2 e3
    rw [ha, hb]
    have N1 := fun w => WK1.out a w a0 a1
    have N2 := fun w => WK2.out b w b0 b1
    rw [← e2] at N2
    rw [← e1] at N1
    have N1 := Lib.hid N1; have N2 := Lib.hid N2
    clear e1 e2
    have G := fun w => ref_Gcd (a' - b') n w (by omega) (by omega) (by omega) (by omega)
    rw [← e3.out] at G
    have G := Lib.hid G
    by_cases hk : k + 1 = t
    · subst hk
      have ht := HT.out
      go_wp2_with (first | (go_at_call 47; first | ((with_reducible refine (N1.out _).mono ?_); rintro e w' ⟨rfl, d1, rfl⟩) | ((with_reducible refine (N2.out _).mono ?_); rintro e w' ⟨rfl, d2, rfl⟩)) | (go_at_call 34; (with_reducible refine (G.out _).mono ?_); rintro e w5 ⟨rfl, rfl⟩))
      go_ret2
      exact ⟨by go_num, _, rfl⟩
    · have ht := HN.out (k + 1) (by omega) (by omega)
      go_wp2_with (first | (go_at_call 47; first | ((with_reducible refine (N1.out _).mono ?_); rintro e w' ⟨rfl, d1, rfl⟩) | ((with_reducible refine (N2.out _).mono ?_); rintro e w' ⟨rfl, d2, rfl⟩)) | (go_at_call 34; (with_reducible refine (G.out _).mono ?_); rintro e w5 ⟨rfl, rfl⟩))
      go_roundw
      case rel => exact ⟨k + 1, by omega, by rw [ha'], by rw [hb'], by go_num, _, rfl⟩
      case measure => simp [intOf]; omega
end Go.Proofs.Ytoignifimgioaaa

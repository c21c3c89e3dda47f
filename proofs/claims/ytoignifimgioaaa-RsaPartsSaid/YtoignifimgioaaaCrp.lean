/- Curves, plain: quotients and sums by a prime. -/
import Derived.Test.YtoignifimgioaaaCry
import Derived.Test.YtoignifimgioaaaEuc
namespace Lw
theorem inv_spec {a m : Int} (hm : 0 < m) (hm2 : m ≤ 1048576) (ha : 0 ≤ a) (ha2 : a < m) (h : gcdI a m = 1) : invE a m = 0 ∧ invR a m * a % m = 1 % m ∧ 0 ≤ invR a m ∧ invR a m < m := by
  obtain ⟨e1, e2⟩ := invE_zero (a := a) (m := m) (by omega) h
  obtain ⟨g, x, h1, h2, _, h4⟩ := exists_step a m
  rw [h] at h1
  have hg : g = 1 := by have := h4 ha (by omega); unfold absI at h1; omega
  subst hg
  have h5 : x % m * a % m = 1 % m := by rw [mul_emod_left]; exact emod_of_dvd_sub h2
  have e3 := invI_eq (a := a) (Int.emod_nonneg x (by omega)) (Int.emod_lt_of_pos x hm) h5
  rw [e2, e3]
  exact ⟨e1, h5, Int.emod_nonneg x (by omega), Int.emod_lt_of_pos x hm⟩
theorem prime_gcdI {P : Int} (hp : primeB P = true) {b : Int} (b0 : 0 ≤ b) (b1 : b < P) (hb : ¬ b = 0) : gcdI b P = 1 := by
  have hp' : Prime P.toNat := by simpa [primeB] using hp
  have h := hp'.coprime (a := b.toNat) (fun e => by have := Nat.le_of_dvd (by omega) e; omega)
  unfold gcdI
  rw [Int.gcd, show b.natAbs = b.toNat by omega, show P.natAbs = P.toNat by omega, Nat.gcd_comm, h]; rfl
/-- a quotient, as the program reckons it -/
def ovI (P a b : Int) : Int := a % P * invR (b % P) P % P
theorem invR_bd {a m : Int} (hm : 0 < m) : 0 ≤ invR a m ∧ invR a m < m ∨ (invR a m = 0) := by
  unfold invR
  split
  · rename_i h
    by_cases hm2 : a < -2147483648 ∨ 2147483648 < a ∨ m < 1 ∨ 1048576 < m
    · rw [(invE_two hm2).1] at h; cases h
    · by_cases hg : gcdI a m = 1
      · obtain ⟨g, x, h1, h2, _, h4⟩ := exists_step a m
        left
        have hlt : invI a m < m ∧ 0 ≤ invI a m := by
          unfold invI
          cases hf : (List.range m.toNat).find? (fun (i : Nat) => decide ((i : Int) * a % m = 1 % m)) with
          | none => simp; omega
          | some j =>
            have := List.mem_of_find?_eq_some hf
            simp at this ⊢; omega
        omega
      · rw [(invE_five hm2 hg).1] at h; cases h
  · exact .inr rfl
theorem ovI_bd {P : Int} (hP : 0 < P) (a b : Int) : 0 ≤ ovI P a b ∧ ovI P a b < P := emod_bd _ _ hP
theorem ovI_ok {P a b : Int} (hp : primeB P = true) (h1 : 1 ≤ P) (h2 : P ≤ 1048576) (hb : ¬ b % P = 0) : (ovI P a b * (b % P) - a) % P = 0 := by
  have b0 := Int.emod_nonneg b (by omega : P ≠ 0)
  have b1 := Int.emod_lt_of_pos b (by omega : 0 < P)
  obtain ⟨_, i1, _, _⟩ := inv_spec (a := b % P) (m := P) (by omega) h2 b0 b1 (prime_gcdI hp b0 b1 hb)
  unfold ovI
  obtain ⟨q, hq⟩ := emod_sub_q (a % P * invR (b % P) P) P
  obtain ⟨r, hr⟩ := emod_sub_q a P
  obtain ⟨k, hk⟩ := emod_zero_of i1
  rw [hq, hr]
  generalize invR (b % P) P = i at *
  generalize b % P = c at *
  have e : ((a - P * r) * i - P * q) * c - a = 0 + P * (a * k - r * i * c - q * c) := by grind
  rw [e, Int.add_mul_emod_self_left]; rfl
theorem prime_dvd_mul {P a b : Int} (hp : primeB P = true) (h : (a * b) % P = 0) : a % P = 0 ∨ b % P = 0 := by
  have hp' : Prime P.toNat := by simpa [primeB] using hp
  have hP := hp'.1
  by_cases ha : a % P = 0
  · exact .inl ha
  · right
    have a0 := Int.emod_nonneg a (by omega : P ≠ 0)
    have a1 := Int.emod_lt_of_pos a (by omega : 0 < P)
    have hg := prime_gcdI hp a0 a1 ha
    obtain ⟨g, x, h1, h2, _, h4⟩ := exists_step (a % P) P
    rw [hg] at h1
    have hg1 : g = 1 := by have := h4 a0 (by omega); unfold absI at h1; omega
    subst hg1
    obtain ⟨k, hk⟩ := h2
    obtain ⟨q, hq⟩ := emod_sub_q a P
    obtain ⟨r, hr⟩ := emod_zero_of (a := a * b) (b := 0) (P := P) (by rw [h]; rfl)
    rw [hq] at hk
    have e : b = 0 + P * (x * r - x * q * b - k * b) := by grind
    rw [e, Int.add_mul_emod_self_left]; rfl
theorem ov_unique {P a b i j : Int} (hp : primeB P = true) (hb : ¬ b % P = 0) (i0 : 0 ≤ i) (i1 : i < P) (j0 : 0 ≤ j) (j1 : j < P) (h1 : (i * (b % P) - a) % P = 0) (h2 : (j * (b % P) - a) % P = 0) : i = j := by
  obtain ⟨u, hu⟩ := emod_zero_of (b := 0) (P := P) (by rw [h1]; rfl)
  obtain ⟨v, hv⟩ := emod_zero_of (b := 0) (P := P) (by rw [h2]; rfl)
  have e : ((i - j) * (b % P)) % P = 0 := by
    have : (i - j) * (b % P) = 0 + P * (u - v) := by grind
    rw [this, Int.add_mul_emod_self_left]; rfl
  rcases prime_dvd_mul hp e with h | h
  · have := Int.dvd_of_emod_eq_zero h
    obtain ⟨k, hk⟩ := this
    have : k = 0 := by
      rcases Int.lt_trichotomy k 0 with h | h | h
      · have : P * k ≤ P * (-1) := Int.mul_le_mul_of_nonneg_left (by omega) (by omega); omega
      · exact h
      · have : P * 1 ≤ P * k := Int.mul_le_mul_of_nonneg_left (by omega) (by omega); omega
    subst this; omega
  · rw [Int.emod_emod] at h; exact absurd h hb
/-- the sum, as both reckon it -/
def slopeI (P A : Int) (s t : SpotT) : Int := if s.X = t.X ∧ s.Y = t.Y then ovI P (3 * s.X * s.X + A) (2 * s.Y) else ovI P (t.Y - s.Y) (t.X - s.X)
def sumX (P k : Int) (s t : SpotT) : Int := (k * k - s.X - t.X) % P
def sumY (P k x : Int) (s : SpotT) : Int := (k * (s.X - x) - s.Y) % P
def addT (P A : Int) (s t : SpotT) : SpotT :=
  if s.F then t else if t.F then s else if s.X = t.X ∧ s.Y = (-t.Y) % P then ⟨0, 0, true⟩
  else ⟨sumX P (slopeI P A s t) s t, sumY P (slopeI P A s t) (sumX P (slopeI P A s t) s t) s, false⟩
end Lw
set_option linter.unusedVariables false
set_option linter.unusedSimpArgs false
namespace Go.Proofs.Ytoignifimgioaaa
open Go.RowKit
set_option maxHeartbeats 1000000 in
theorem curve_over (P A B a b : Int) (w : World) (h1 : 0 < P) (h2 : P ≤ 1009) :
    Calls Try.prog 74 #[.agg #[.int .i64 P, .int .i64 A, .int .i64 B], .int .i64 a, .int .i64 b] w fun e w' => e = .returned (.int .i64 (Lw.ovI P a b)) ∧ Below w.heap.size w w' := by
  have hP0 : ¬ P = 0 := by omega
  have M1 := Lib.hid (fun w => curve_mod P A B b w h1 h2)
  have M2 := Lib.hid (fun w => curve_mod P A B a w h1 h2)
  have I := Lib.hid (fun w => euclid_Inverse (b % P) P w)
  have a0 := Int.emod_nonneg a hP0
  have a1 := Int.emod_lt_of_pos a h1
  have ib := Lw.invR_bd (a := b % P) h1
  have O : Hid (Lw.ovI P a b = a % P * Lw.invR (b % P) P % P) := rfl
  obtain ⟨i, hi⟩ : ∃ i, Lw.invR (b % P) P = i := ⟨_, rfl⟩
  rw [hi] at I ib O
  obtain ⟨m0, m1⟩ := Lw.mul_bd' (a % P) i 1009 a0 (by omega) (by omega) (by omega)
  have e1 : IntKind.i64.wrap (a % P * i) = a % P * i := by rw [IntKind.wrap_i64]; omega
  have e2 : (a % P * i).tmod P = a % P * i % P := Int.tmod_eq_emod_of_nonneg m0
  obtain ⟨W, hW⟩ : ∃ W, w.alloc (.cells #[.int .i64 P, .int .i64 A, .int .i64 B] 79) = W := ⟨_, rfl⟩
  have B0 := show W.heap[w.heap.size]? = some (.cells #[.int .i64 P, .int .i64 A, .int .i64 B] 79 (0, 0)) from hW ▸ Lw.blk_new _ _ _
  have l0 := Lw.blk_cell B0 0; have l1 := Lw.blk_cell B0 1; have l2 := Lw.blk_cell B0 2
  simp at l0 l1 l2
  have hBW : Below w.heap.size w W := by rw [← hW]; exact Lw.balloc (Below.refl _ _) _
  have hWs : w.heap.size < W.heap.size := by rw [← hW]; simp
  have HW := Lib.hid hW
  clear hW B0 hi ib
  go_enter Try.func74, Try.ntmps74
  go_wp2_with fail
  rw [HW.out]
  refine wp_region_held_drew (S := Lw.Sm W) (by kernel_rfl) (Lw.sm_drew W) (fun hHeld => ?_)
  (refine Lw.take1 (i := 0) (v := ?_) rfl (by kernel_rfl) (by kernel_rfl) (by kernel_rfl) (fun _ _ _ h => h) (Or.inl ⟨by rfl, ?_⟩) (by assumption) ?_; rotate_left 1; (focus (intro wS hSw; obtain ⟨hS1, hS2, hS3, hS4⟩ := hSw; go_simp <;> with_reducible rfl)); (try simp only [Act.put, List.setIfInBounds_toArray, List.set_cons_zero, List.set_cons_succ]))
  (refine Lw.take1 (i := 1) (v := ?_) rfl (by kernel_rfl) (by kernel_rfl) (by kernel_rfl) (fun _ _ _ h => h) (Or.inl ⟨by rfl, ?_⟩) (by assumption) ?_; rotate_left 1; (focus (intro wS hSw; obtain ⟨hS1, hS2, hS3, hS4⟩ := hSw; go_simp <;> with_reducible rfl)); (try simp only [Act.put, List.setIfInBounds_toArray, List.set_cons_zero, List.set_cons_succ]))
  (refine Lw.take1 (i := 3) (v := ?_) rfl (by kernel_rfl) (by kernel_rfl) (by kernel_rfl) (fun _ _ _ h => h) (Or.inl ⟨by rfl, ?_⟩) (by assumption) ?_; rotate_left 1; (focus (intro wS hSw; obtain ⟨hS1, hS2, hS3, hS4⟩ := hSw; go_simp <;> with_reducible rfl)); (try simp only [Act.put, List.setIfInBounds_toArray, List.set_cons_zero, List.set_cons_succ]))
  (refine Lw.take1 (i := 4) (v := ?_) rfl (by kernel_rfl) (by kernel_rfl) (by kernel_rfl) (fun _ _ _ h => h) (Or.inl ⟨by rfl, ?_⟩) (by assumption) ?_; rotate_left 1; (focus (intro wS hSw; obtain ⟨hS1, hS2, hS3, hS4⟩ := hSw; go_simp <;> with_reducible rfl)); (try simp only [Act.put, List.setIfInBounds_toArray, List.set_cons_zero, List.set_cons_succ]))
  (refine Lw.take1 (i := 5) (v := ?_) rfl (by kernel_rfl) (by kernel_rfl) (by kernel_rfl) (fun _ _ _ h => h) (Or.inl ⟨by rfl, ?_⟩) (by assumption) ?_; rotate_left 1; (focus (intro wS hSw; obtain ⟨hS1, hS2, hS3, hS4⟩ := hSw; go_simp <;> with_reducible rfl)); (try simp only [Act.put, List.setIfInBounds_toArray, List.set_cons_zero, List.set_cons_succ]))
  (refine wpAnyH_ready (rs := [2]) (by kernel_rfl) (by simp) ?_; refine Lw.cons1 (i := 2) rfl (fun K hK => ?_) AllReadyH.nil; go_simp; go_at_call 72; (with_reducible refine (M1.out _).mono ?_); rintro e wx ⟨rfl, hbx⟩; refine hK.out _ _ ?_ (fun hHeld => ?_); (focus exact Lw.sm_keep (Lw.sm_drew W) hbx); clear hK K; (try simp only [Act.put, List.setIfInBounds_toArray, List.set_cons_zero, List.set_cons_succ]))
  (refine wpAnyH_ready (rs := [6]) (by kernel_rfl) (by simp) ?_; refine Lw.cons1 (i := 6) rfl (fun K hK => ?_) AllReadyH.nil; go_simp; go_at_call 61; (with_reducible refine (I.out _).mono ?_); rintro e wy ⟨rfl, hby⟩; refine hK.out _ _ ?_ (fun hHeld => ?_); (focus exact Lw.sm_keep (Lw.sm_keep (Lw.sm_drew W) hbx) hby); clear hK K; (try simp only [Act.put, List.setIfInBounds_toArray, List.set_cons_zero, List.set_cons_succ]))
  (refine Lw.take1 (i := 7) (v := ?_) rfl (by kernel_rfl) (by kernel_rfl) (by kernel_rfl) (fun _ _ _ h => h) (Or.inl ⟨by rfl, ?_⟩) (by assumption) ?_; rotate_left 1; (focus (intro wS hSw; obtain ⟨hS1, hS2, hS3, hS4⟩ := hSw; go_simp <;> with_reducible rfl)); (try simp only [Act.put, List.setIfInBounds_toArray, List.set_cons_zero, List.set_cons_succ]))
  (refine Lw.take1 (i := 8) (v := ?_) rfl (by kernel_rfl) (by kernel_rfl) (by kernel_rfl) (fun _ _ _ h => h) (Or.inl ⟨by rfl, ?_⟩) (by assumption) ?_; rotate_left 1; (focus (intro wS hSw; obtain ⟨hS1, hS2, hS3, hS4⟩ := hSw; go_simp <;> with_reducible rfl)); (try simp only [Act.put, List.setIfInBounds_toArray, List.set_cons_zero, List.set_cons_succ]))
  (refine Lw.take1 (i := 9) (v := ?_) rfl (by kernel_rfl) (by kernel_rfl) (by kernel_rfl) (fun _ _ _ h => h) (Or.inl ⟨by rfl, ?_⟩) (by assumption) ?_; rotate_left 1; (focus (intro wS hSw; obtain ⟨hS1, hS2, hS3, hS4⟩ := hSw; go_simp <;> with_reducible rfl)); (try simp only [Act.put, List.setIfInBounds_toArray, List.set_cons_zero, List.set_cons_succ]))
  (refine Lw.take1 (i := 10) (v := ?_) rfl (by kernel_rfl) (by kernel_rfl) (by kernel_rfl) (fun _ _ _ h => h) (Or.inl ⟨by rfl, ?_⟩) (by assumption) ?_; rotate_left 1; (focus (intro wS hSw; obtain ⟨hS1, hS2, hS3, hS4⟩ := hSw; go_simp <;> with_reducible rfl)); (try simp only [Act.put, List.setIfInBounds_toArray, List.set_cons_zero, List.set_cons_succ]))
  (refine Lw.take1 (i := 11) (v := ?_) rfl (by kernel_rfl) (by kernel_rfl) (by kernel_rfl) (fun _ _ _ h => h) (Or.inl ⟨by rfl, ?_⟩) (by assumption) ?_; rotate_left 1; (focus (intro wS hSw; obtain ⟨hS1, hS2, hS3, hS4⟩ := hSw; go_simp <;> with_reducible rfl)); (try simp only [Act.put, List.setIfInBounds_toArray, List.set_cons_zero, List.set_cons_succ]))
  refine wpAnyH_done (by kernel_rfl) ?_ _
  have hS := Lw.sm_drew' (Lw.sm_keep (Lw.sm_keep (Lw.sm_drew W) hbx) hby)
  go_wp2_with fail
  refine wp_region_held_drew (S := Lw.Sm W) (by kernel_rfl) hS (fun hHeld => ?_)
  (refine Lw.take1 (i := 0) (v := ?_) rfl (by kernel_rfl) (by kernel_rfl) (by kernel_rfl) (fun _ _ _ h => h) (Or.inl ⟨by rfl, ?_⟩) (by assumption) ?_; rotate_left 1; (focus (intro wS hSw; obtain ⟨hS1, hS2, hS3, hS4⟩ := hSw; go_simp <;> with_reducible rfl)); (try simp only [Act.put, List.setIfInBounds_toArray, List.set_cons_zero, List.set_cons_succ]))
  (refine Lw.take1 (i := 1) (v := ?_) rfl (by kernel_rfl) (by kernel_rfl) (by kernel_rfl) (fun _ _ _ h => h) (Or.inl ⟨by rfl, ?_⟩) (by assumption) ?_; rotate_left 1; (focus (intro wS hSw; obtain ⟨hS1, hS2, hS3, hS4⟩ := hSw; go_simp <;> with_reducible rfl)); (try simp only [Act.put, List.setIfInBounds_toArray, List.set_cons_zero, List.set_cons_succ]))
  (refine Lw.take1 (i := 3) (v := ?_) rfl (by kernel_rfl) (by kernel_rfl) (by kernel_rfl) (fun _ _ _ h => h) (Or.inl ⟨by rfl, ?_⟩) (by assumption) ?_; rotate_left 1; (focus (intro wS hSw; obtain ⟨hS1, hS2, hS3, hS4⟩ := hSw; go_simp <;> with_reducible rfl)); (try simp only [Act.put, List.setIfInBounds_toArray, List.set_cons_zero, List.set_cons_succ]))
  (refine Lw.take1 (i := 5) (v := ?_) rfl (by kernel_rfl) (by kernel_rfl) (by kernel_rfl) (fun _ _ _ h => h) (Or.inl ⟨by rfl, ?_⟩) (by assumption) ?_; rotate_left 1; (focus (intro wS hSw; obtain ⟨hS1, hS2, hS3, hS4⟩ := hSw; go_simp <;> with_reducible rfl)); (try simp only [Act.put, List.setIfInBounds_toArray, List.set_cons_zero, List.set_cons_succ]))
  (refine Lw.take1 (i := 6) (v := ?_) rfl (by kernel_rfl) (by kernel_rfl) (by kernel_rfl) (fun _ _ _ h => h) (Or.inl ⟨by rfl, ?_⟩) (by assumption) ?_; rotate_left 1; (focus (intro wS hSw; obtain ⟨hS1, hS2, hS3, hS4⟩ := hSw; go_simp <;> with_reducible rfl)); (try simp only [Act.put, List.setIfInBounds_toArray, List.set_cons_zero, List.set_cons_succ]))
  (refine Lw.take1 (i := 7) (v := ?_) rfl (by kernel_rfl) (by kernel_rfl) (by kernel_rfl) (fun _ _ _ h => h) (Or.inl ⟨by rfl, ?_⟩) (by assumption) ?_; rotate_left 1; (focus (intro wS hSw; obtain ⟨hS1, hS2, hS3, hS4⟩ := hSw; go_simp <;> with_reducible rfl)); (try simp only [Act.put, List.setIfInBounds_toArray, List.set_cons_zero, List.set_cons_succ]))
  (refine wpAnyH_ready (rs := [2]) (by kernel_rfl) (by simp) ?_; refine Lw.cons1 (i := 2) rfl (fun K hK => ?_) AllReadyH.nil; go_simp; go_at_call 72; (with_reducible refine (M2.out _).mono ?_); rintro e wz ⟨rfl, hbz⟩; refine hK.out _ _ ?_ (fun hHeld => ?_); (focus exact Lw.sm_keep hS hbz); clear hK K; (try simp only [Act.put, List.setIfInBounds_toArray, List.set_cons_zero, List.set_cons_succ]))
  (refine Lw.take1 (i := 4) (v := ?_) rfl (by kernel_rfl) (by kernel_rfl) (by kernel_rfl) (fun _ _ _ h => h) (Or.inl ⟨by rfl, ?_⟩) (by assumption) ?_; rotate_left 1; (focus (intro wS hSw; obtain ⟨hS1, hS2, hS3, hS4⟩ := hSw; go_simp <;> with_reducible rfl)); (try simp only [Act.put, List.setIfInBounds_toArray, List.set_cons_zero, List.set_cons_succ]))
  (refine Lw.take1 (i := 8) (v := ?_) rfl (by kernel_rfl) (by kernel_rfl) (by kernel_rfl) (fun _ _ _ h => h) (Or.inl ⟨by rfl, ?_⟩) (by assumption) ?_; rotate_left 1; (focus (intro wS hSw; obtain ⟨hS1, hS2, hS3, hS4⟩ := hSw; go_simp <;> with_reducible rfl)); (try simp only [Act.put, List.setIfInBounds_toArray, List.set_cons_zero, List.set_cons_succ]))
  (refine Lw.take1 (i := 9) (v := ?_) rfl (by kernel_rfl) (by kernel_rfl) (by kernel_rfl) (fun _ _ _ h => h) (Or.inl ⟨by rfl, ?_⟩) (by assumption) ?_; rotate_left 1; (focus (intro wS hSw; obtain ⟨hS1, hS2, hS3, hS4⟩ := hSw; go_simp <;> with_reducible rfl)); (try simp only [Act.put, List.setIfInBounds_toArray, List.set_cons_zero, List.set_cons_succ]))
  refine wpAnyH_done (by kernel_rfl) ?_ _
  go_wp2
  go_ret
  exact ⟨Lw.ret_int O.out.symm, Lw.bt hBW (Lw.sm_keep hS hbz).2.2.2⟩
end Go.Proofs.Ytoignifimgioaaa

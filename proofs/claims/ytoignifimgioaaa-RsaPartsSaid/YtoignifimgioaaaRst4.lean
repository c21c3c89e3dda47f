/- crt.join. -/
import Derived.Test.YtoignifimgioaaaRst3
namespace Lw
theorem join_bd {m n : Int} (hm : 1 ≤ m) (hn : 1 ≤ n) : 1 ≤ gcdI m n ∧ gcdI m n ≤ m ∧ gcdI m n ≤ n ∧ 1 ≤ n / gcdI m n ∧ n / gcdI m n ≤ n ∧ n.tdiv (gcdI m n) = n / gcdI m n := by
  have h0 : 0 ≤ gcdI m n := by unfold gcdI; omega
  have hne : ¬ gcdI m n = 0 := fun e => by have := gcdI_zero e; omega
  have l1 := Int.le_of_dvd (by omega) (gcdI_dvd_left m n)
  have l2 := Int.le_of_dvd (by omega) (gcdI_dvd_right m n)
  obtain ⟨k, hk⟩ := gcdI_dvd_right m n
  have hq : n / gcdI m n = k := by
    have := Int.mul_ediv_cancel_left (a := gcdI m n) k hne
    rw [← hk] at this; exact this
  refine ⟨by omega, l1, l2, ?_, ?_, Int.tdiv_eq_ediv_of_nonneg (by omega)⟩
  · rw [hq]
    rcases Int.lt_trichotomy k 0 with h | h | h
    · have : gcdI m n * k ≤ gcdI m n * (-1) := Int.mul_le_mul_of_nonneg_left (by omega) h0; omega
    · subst h; omega
    · omega
  · exact Int.ediv_le_self _ (by omega)
theorem tmod_zero {z g : Int} : z.tmod g = 0 ↔ z % g = 0 := by
  constructor
  · intro h
    have := tmod_emod z g
    rw [h] at this
    rw [← this]; simp
  · intro h
    obtain ⟨k, hk⟩ := Int.dvd_of_emod_eq_zero h
    rw [hk]; exact Int.mul_tmod_right g k
theorem tdiv_exact {z g : Int} (hg : 0 < g) (h : z % g = 0) : z.tdiv g = z / g := by
  obtain ⟨k, hk⟩ := Int.dvd_of_emod_eq_zero h
  rw [hk, Int.mul_tdiv_cancel_left _ (by omega), Int.mul_ediv_cancel_left _ (by omega)]
end Lw
set_option linter.unusedVariables false
set_option linter.unusedSimpArgs false
namespace Go.Proofs.Ytoignifimgioaaa
open Go.RowKit
set_option maxHeartbeats 4000000 in
theorem crt_join_no (a m b n : Int) (w : World) (a0 : 0 ≤ a) (a1 : a < m) (m1 : 1 ≤ m) (m2 : m ≤ 2147483648) (b0 : 0 ≤ b) (b1 : b < n) (n1 : 1 ≤ n) (n2 : n ≤ 1048576) (hd : ¬ (b - a) % Lw.gcdI m n = 0) :
    Calls Try.prog 56 #[.agg #[.int .i64 a, .int .i64 m], .agg #[.int .i64 b, .int .i64 n]] w fun e w' => e = .returned (.tuple #[.agg #[.int .i64 0, .int .i64 0], .bool false]) ∧ Below w.heap.size w w' := by
  obtain ⟨g1, g2, g3, k1, k2, _⟩ := Lw.join_bd (m := m) (n := n) m1 n1
  have BZ := Lib.hid (fun w => euclid_Bezout m n w (Lw.farB_false (by omega)) (Lw.farB_false (by omega)))
  have ht : ((b - a).tmod (Lw.gcdI m n) == 0) = false := by simpa using fun h => hd (Lw.tmod_zero.1 h)
  obtain ⟨g, hg⟩ : ∃ g, Lw.gcdI m n = g := ⟨_, rfl⟩
  rw [hg] at g1 g2 g3 ht
  have HG := Lib.hid hg
  have hg0 : ¬ g = 0 := by omega
  clear hd k1 k2 hg
  obtain ⟨W, hW⟩ : ∃ W, ((w.alloc (.cells #[.int .i64 a, .int .i64 m] 47)).alloc (.cells #[.int .i64 b, .int .i64 n] 47)).alloc (.cells #[.int .i64 0, .int .i64 0] 47) = W := ⟨_, rfl⟩
  have B0 := Lib.hid (show W.heap[w.heap.size]? = some (.cells #[.int .i64 a, .int .i64 m] 47 (0, 0)) from hW ▸ Lw.blk_alloc (Lw.blk_alloc (Lw.blk_new _ _ _) _) _)
  have B1 := Lib.hid (show W.heap[w.heap.size + 1]? = some (.cells #[.int .i64 b, .int .i64 n] 47 (0, 0)) from hW ▸ Lw.blk_alloc (Lw.blk_new' (by simp) _ _) _)
  have B2 := Lib.hid (show W.heap[w.heap.size + 1 + 1]? = some (.cells #[.int .i64 0, .int .i64 0] 47 (0, 0)) from hW ▸ Lw.blk_new' (by simp) _ _)
  have hBW : Below w.heap.size w W := by rw [← hW]; exact Lw.balloc (Lw.balloc (Lw.balloc (Below.refl _ _) _) _) _
  have hWs : w.heap.size + 1 + 1 < W.heap.size := by rw [← hW]; simp
  have HW := Lib.hid hW
  clear hW
  go_enter Try.func56, Try.ntmps56
  go_wp2_with fail
  rw [HW.out]
  refine (BZ.out _).mono ?_
  rintro e w1 ⟨gg, x, y, BP, rfl, hb1⟩
  have eg : gg = g := BP.gcd.trans HG.out
  have C0 := (hb1.block w.heap.size (by omega)).trans B0.out
  have C1 := (hb1.block (w.heap.size + 1) (by omega)).trans B1.out
  have C2 := (hb1.block (w.heap.size + 1 + 1) hWs).trans B2.out
  subst eg
  have BPh := Lib.hid BP
  clear BP
  have q0 := Lw.blk_cell C0 0; have q1 := Lw.blk_cell C0 1; have q2 := Lw.blk_cell C1 0; have q3 := Lw.blk_cell C1 1; have q4 := Lw.blk_cell C2 0; have q5 := Lw.blk_cell C2 1
  have f4 := Lw.blk_free C2 0; have f5 := Lw.blk_free C2 1
  simp at q0 q1 q2 q3 q4 q5
  obtain ⟨_, r0, r1⟩ := Lw.set2c (x := .int .i64 0) (y := .int .i64 0) C2
  have r0 := Lib.hid r0; have r1 := Lib.hid r1
  have HB := Lib.hid (Lw.bset2 (Lw.bt hBW hb1) (by omega : w.heap.size ≤ w.heap.size + 1 + 1) (.int .i64 0) (.int .i64 0))
  clear C0 C1 C2 B0 B1 B2
  go_wp2_with fail
  refine bodyPost_ret (v := .tuple #[.agg #[.int .i64 0, .int .i64 0], .bool false]) (by simp only [results, Try.results56]; simp [go_sem, r0.out, r1.out]) rfl ⟨rfl, HB.out⟩
set_option maxHeartbeats 4000000 in
theorem crt_join_yes (a m b n : Int) (w : World) (a0 : 0 ≤ a) (a1 : a < m) (m1 : 1 ≤ m) (m2 : m ≤ 2147483648) (b0 : 0 ≤ b) (b1 : b < n) (n1 : 1 ≤ n) (n2 : n ≤ 1048576) (hl : Lw.lcmI m n ≤ 2147483648) (hd : (b - a) % Lw.gcdI m n = 0) :
    Calls Try.prog 56 #[.agg #[.int .i64 a, .int .i64 m], .agg #[.int .i64 b, .int .i64 n]] w fun e w' => ∃ A : Int, 0 ≤ A ∧ A < Lw.lcmI m n ∧ (A - a) % m = 0 ∧ (A - b) % n = 0 ∧ e = .returned (.tuple #[.agg #[.int .i64 A, .int .i64 (Lw.lcmI m n)], .bool true]) ∧ Below w.heap.size w w' := by
  obtain ⟨g1, g2, g3, k1, k2, tn⟩ := Lw.join_bd (m := m) (n := n) m1 n1
  have BZ := Lib.hid (fun w => euclid_Bezout m n w (Lw.farB_false (by omega)) (Lw.farB_false (by omega)))
  have ht : ((b - a).tmod (Lw.gcdI m n) == 0) = true := by simpa using Lw.tmod_zero.2 hd
  have td := Lw.tdiv_exact (by omega : 0 < Lw.gcdI m n) hd
  have JO := Lib.hid (fun (x : Int) (hx : n ∣ Lw.gcdI m n - x * m) => Lw.join_ok (a := a) (b := b) m1 n1 hx hd)
  have hdb : -2147483648 ≤ (b - a) / Lw.gcdI m n ∧ (b - a) / Lw.gcdI m n ≤ 2147483648 := by rw [← td]; exact Lw.tdiv_le (by omega) (by omega)
  have JD : Hid (∀ x, Lw.joinA a m b n x = (a + m * ((b - a) / Lw.gcdI m n % (n / Lw.gcdI m n) * (x % (n / Lw.gcdI m n)) % (n / Lw.gcdI m n))) % (m * (n / Lw.gcdI m n))) := fun x => rfl
  obtain ⟨g, hg⟩ : ∃ g, Lw.gcdI m n = g := ⟨_, rfl⟩
  rw [hg] at g1 g2 g3 ht td JO hdb JD k1 k2 tn
  have HG := Lib.hid hg
  have hg0 : ¬ g = 0 := by omega
  obtain ⟨N, hN⟩ : ∃ N, n / g = N := ⟨_, rfl⟩
  rw [hN] at JO JD k1 k2 tn
  obtain ⟨d, hd2⟩ : ∃ d, (b - a) / g = d := ⟨_, rfl⟩
  rw [hd2] at td hdb JD
  obtain ⟨hdb0, hdb1⟩ := hdb
  obtain ⟨l, hl2⟩ : ∃ l, Lw.lcmI m n = l := ⟨_, rfl⟩
  rw [hl2] at JO hl
  rw [hl2]
  clear hd hg hN hd2 hl2
  obtain ⟨W, hW⟩ : ∃ W, ((w.alloc (.cells #[.int .i64 a, .int .i64 m] 47)).alloc (.cells #[.int .i64 b, .int .i64 n] 47)).alloc (.cells #[.int .i64 0, .int .i64 0] 47) = W := ⟨_, rfl⟩
  have B0 := Lib.hid (show W.heap[w.heap.size]? = some (.cells #[.int .i64 a, .int .i64 m] 47 (0, 0)) from hW ▸ Lw.blk_alloc (Lw.blk_alloc (Lw.blk_new _ _ _) _) _)
  have B1 := Lib.hid (show W.heap[w.heap.size + 1]? = some (.cells #[.int .i64 b, .int .i64 n] 47 (0, 0)) from hW ▸ Lw.blk_alloc (Lw.blk_new' (by simp) _ _) _)
  have B2 := Lib.hid (show W.heap[w.heap.size + 1 + 1]? = some (.cells #[.int .i64 0, .int .i64 0] 47 (0, 0)) from hW ▸ Lw.blk_new' (by simp) _ _)
  have hBW : Below w.heap.size w W := by rw [← hW]; exact Lw.balloc (Lw.balloc (Lw.balloc (Below.refl _ _) _) _) _
  have hWs : w.heap.size + 1 + 1 < W.heap.size := by rw [← hW]; simp
  have HW := Lib.hid hW
  clear hW
  go_enter Try.func56, Try.ntmps56
  go_wp2_with fail
  rw [HW.out]
  refine (BZ.out _).mono ?_
  rintro e w1 ⟨gg, x, y, BP, rfl, hb1⟩
  have eg : gg = g := BP.gcd.trans HG.out
  have C0 := (hb1.block w.heap.size (by omega)).trans B0.out
  have C1 := (hb1.block (w.heap.size + 1) (by omega)).trans B1.out
  have C2 := (hb1.block (w.heap.size + 1 + 1) hWs).trans B2.out
  subst eg
  obtain ⟨x0, x1, hx, _⟩ := BP.pos (by omega)
  have x1 : x < N ∨ True := .inr trivial
  obtain ⟨j1, j2, j3⟩ := JO.out x hx
  have jd := JD.out x
  have N0 : 0 < N := by omega
  have n0 : N ≠ 0 := by omega
  have u0 := Int.emod_nonneg d n0; have u1 := Int.emod_lt_of_pos d N0
  have v0 := Int.emod_nonneg x n0; have v1 := Int.emod_lt_of_pos x N0
  obtain ⟨p0, p1⟩ := Lw.mul_bd' (d % N) (x % N) 1048576 u0 (by omega) v0 (by omega)
  have s0 := Int.emod_nonneg (d % N * (x % N)) n0; have s1 := Int.emod_lt_of_pos (d % N * (x % N)) N0
  obtain ⟨k, hk⟩ : ∃ k, d % N * (x % N) % N = k := ⟨_, rfl⟩
  rw [hk] at s0 s1 jd
  have mk : 0 ≤ m * k ∧ m * k ≤ m * N - m := by
    refine ⟨Int.mul_nonneg (by omega) s0, ?_⟩
    have : m * k ≤ m * (N - 1) := Int.mul_le_mul_of_nonneg_left (by omega) (by omega)
    rw [Int.mul_sub, Int.mul_one] at this; exact this
  obtain ⟨mk0, mk1⟩ := mk
  rw [j1] at jd mk1
  have M1 := Lib.hid (fun w => euclid_Mod d N w N0 (by omega))
  have M2 := Lib.hid (fun w => euclid_Mod x N w N0 (by omega))
  have M3 := fun w => euclid_Mod (d % N * (x % N)) N w N0 (by omega)
  rw [hk] at M3
  replace M3 := Lib.hid M3
  have l0 : 0 < l := by omega
  have M4 := fun w => euclid_Mod (a + m * k) l w l0 (by omega)
  rw [← jd] at M4
  replace M4 := Lib.hid M4
  have e1 : IntKind.i64.wrap (d % N * (x % N)) = d % N * (x % N) := by rw [IntKind.wrap_i64]; omega
  have e2 : IntKind.i64.wrap (m * N) = l := by rw [IntKind.wrap_i64, j1]; omega
  have e3 : IntKind.i64.wrap (m * k) = m * k := by rw [IntKind.wrap_i64]; omega
  have e4 : IntKind.i64.wrap (a + m * k) = a + m * k := by rw [IntKind.wrap_i64]; omega
  have A0 := Int.emod_nonneg (a + m * k) (by omega : l ≠ 0); have A1 := Int.emod_lt_of_pos (a + m * k) l0
  rw [← jd] at A0 A1
  obtain ⟨A, hA⟩ : ∃ A, Lw.joinA a m b n x = A := ⟨_, rfl⟩
  rw [hA] at M4 A0 A1 j2 j3
  have J2 := Lib.hid j2; have J3 := Lib.hid j3; have J1 := Lib.hid j1
  have BPh := Lib.hid BP
  clear BP JO JD jd hA hk hx j2 j3 j1
  have q0 := Lw.blk_cell C0 0; have q1 := Lw.blk_cell C0 1; have q2 := Lw.blk_cell C1 0; have q3 := Lw.blk_cell C1 1; have q4 := Lw.blk_cell C2 0; have q5 := Lw.blk_cell C2 1
  have f4 := Lw.blk_free C2 0; have f5 := Lw.blk_free C2 1
  simp at q0 q1 q2 q3 q4 q5
  obtain ⟨_, r0, r1⟩ := Lw.set2c (x := .int .i64 A) (y := .int .i64 l) C2
  have r0 := Lib.hid r0; have r1 := Lib.hid r1
  have HB := Lib.hid (Lw.bset2 (Lw.bt hBW hb1) (by omega : w.heap.size ≤ w.heap.size + 1 + 1) (.int .i64 A) (.int .i64 l))
  clear C0 C1 C2 B0 B1 B2
  go_wp2_with (go_at_call 57; first | ((with_reducible refine (M1.out _).mono ?_); rintro e w' ⟨rfl, rfl⟩) | ((with_reducible refine (M2.out _).mono ?_); rintro e w' ⟨rfl, rfl⟩) | ((with_reducible refine (M3.out _).mono ?_); rintro e w' ⟨rfl, rfl⟩) | ((with_reducible refine (M4.out _).mono ?_); rintro e w' ⟨rfl, rfl⟩))
  refine bodyPost_ret (v := .tuple #[.agg #[.int .i64 A, .int .i64 l], .bool true]) (by simp only [results, Try.results56]; simp [go_sem, r0.out, r1.out]) rfl ⟨A, A0, A1, J2.out, J3.out, rfl, HB.out⟩
end Go.Proofs.Ytoignifimgioaaa

/- Curves: the reference's over and SpotAdd. -/
import Derived.Test.YtoignifimgioaaaCrq
namespace Lw
theorem quietE {P : Go.Program} {f : Go.FuncId} {args : Array Go.Value} {w : Go.World} {d n : Nat} {v : Go.Value} (h : Go.Calls P f args (w.drewN (d + n)) fun e w' => e = .returned v ∧ w.drewN (d + n) = w') : Go.Calls P f args (w.drewN (d + n)) fun e w'' => e = .returned v ∧ ∃ m, w'' = w.drewN (d + m) :=
  h.mono fun _ _ ⟨he, hm⟩ => ⟨he, n, hm.symm⟩
theorem neg_iff {P A B : Int} {s t : SpotT} (hP : 0 < P) (hs : s.F = false) (ht : t.F = false) (h1 : inP P s.X s.Y) (h2 : inP P t.X t.Y) : (s.X = t.X ∧ s.Y = (-t.Y) % P) ↔ (t.X = s.X ∧ t.Y = (-s.Y) % P) := by
  have key : ∀ y z : Int, 0 ≤ y → y < P → 0 ≤ z → z < P → y = (-z) % P → z = (-y) % P := by
    intro y z y0 y1 z0 z1 e
    by_cases hz : z = 0
    · subst hz
      have : y = 0 := by rw [e]; simp
      subst this; simp
    · have e1 : (-z) % P = P - z := by
        rw [← Int.add_mul_emod_self_left (-z) P 1, Int.mul_one]
        exact (Int.emod_eq_of_lt (by omega) (by omega)).trans (by omega)
      have e2 : (-y) % P = P - y := by
        rw [← Int.add_mul_emod_self_left (-y) P 1, Int.mul_one]
        exact (Int.emod_eq_of_lt (by omega) (by omega)).trans (by omega)
      rw [e2]; omega
  obtain ⟨a1, a2, a3, a4⟩ := h1
  obtain ⟨b1, b2, b3, b4⟩ := h2
  exact ⟨fun ⟨h, h'⟩ => ⟨h.symm, key _ _ a3 a4 b3 b4 h'⟩, fun ⟨h, h'⟩ => ⟨h.symm, key _ _ b3 b4 a3 a4 h'⟩⟩
/-- the slope can be reckoned -/
theorem slope_ok {P A B : Int} {s t : SpotT} (hp : primeB P = true) (h5 : 5 ≤ P) (hs : s.F = false) (ht : t.F = false) (h1 : inP P s.X s.Y) (h2 : inP P t.X t.Y) (e1 : s.Y * s.Y % P = rhs P A B s.X) (e2 : t.Y * t.Y % P = rhs P A B t.X) (hn : ¬ (s.X = t.X ∧ s.Y = (-t.Y) % P)) :
    (s.X = t.X ∧ s.Y = t.Y ∧ ¬ (2 * s.Y) % P = 0) ∨ (¬ (s.X = t.X ∧ s.Y = t.Y) ∧ ¬ (t.X - s.X) % P = 0) := by
  obtain ⟨a1, a2, a3, a4⟩ := h1
  obtain ⟨b1, b2, b3, b4⟩ := h2
  have small : ∀ z : Int, -P < z → z < P → z % P = 0 → z = 0 := by
    intro z z0 z1 hz
    obtain ⟨k, hk⟩ := Int.dvd_of_emod_eq_zero hz
    rcases Int.lt_trichotomy k 0 with h | h | h
    · have : P * k ≤ P * (-1) := Int.mul_le_mul_of_nonneg_left (by omega) (by omega); omega
    · subst h; omega
    · have : P * 1 ≤ P * k := Int.mul_le_mul_of_nonneg_left (by omega) (by omega); omega
  by_cases hx : s.X = t.X
  · have e : ((s.Y - t.Y) * (s.Y + t.Y)) % P = 0 := by
      have : s.Y * s.Y % P = t.Y * t.Y % P := by rw [e1, e2, hx]
      obtain ⟨k, hk⟩ := emod_zero_of this
      have : (s.Y - t.Y) * (s.Y + t.Y) = 0 + P * k := by grind
      rw [this, Int.add_mul_emod_self_left]; rfl
    rcases prime_dvd_mul hp e with h | h
    · have hy : s.Y = t.Y := by have := small _ (by omega) (by omega) h; omega
      left
      refine ⟨hx, hy, fun h2 => hn ⟨hx, ?_⟩⟩
      rcases prime_dvd_mul hp h2 with h3 | h3
      · have := small 2 (by omega) (by omega) h3; omega
      · have := small _ (by omega) (by omega) h3
        rw [← hy, this]; simp
    · exfalso
      refine hn ⟨hx, ?_⟩
      have : s.Y = -t.Y + P * ((s.Y + t.Y) / P) := by have := Int.emod_add_mul_ediv (s.Y + t.Y) P; omega
      have e3 := emod_eq_of _ this
      rw [← e3, Int.emod_eq_of_lt a3 a4]
  · right
    refine ⟨fun h => hx h.1, fun h => hx ?_⟩
    have := small _ (by omega) (by omega) h; omega
end Lw
set_option linter.unusedVariables false
set_option linter.unusedSimpArgs false
namespace Go.Proofs.Ytoignifimgioaaa
open Go.RowKit
set_option maxHeartbeats 2000000 in
theorem ref_over (P A B a b : Int) (w : World) (hp : Lw.primeB P = true) (h1 : 1 ≤ P) (h2 : P ≤ 1009) (hb : ¬ b % P = 0) (a0 : -4194304 ≤ a) (a1 : a ≤ 4194304) :
    Calls Try.prog 63 #[.agg #[.int .i64 P, .int .i64 A, .int .i64 B], .int .i64 a, .int .i64 b] w fun e w' => e = .returned (.int .i64 (Lw.ovI P a b)) ∧ Below w.heap.size w w' := by
  obtain ⟨o0, o1⟩ := Lw.ovI_bd (by omega : 0 < P) a b
  have OK := Lw.ovI_ok (a := a) hp h1 (by omega) hb
  have UQ := Lib.hid (fun (j : Int) (j0 : 0 ≤ j) (j1 : j < P) (h : (j * (b % P) - a) % P = 0) => Lw.ov_unique hp hb o0 o1 j0 j1 OK h)
  replace OK := Lib.hid OK
  obtain ⟨K, hK⟩ := Int.eq_ofNat_of_zero_le o0
  rw [hK] at UQ OK o1
  rw [hK]
  have b0 := Int.emod_nonneg b (by omega : P ≠ 0)
  have b1 := Int.emod_lt_of_pos b (by omega : 0 < P)
  have M1 := Lib.hid (fun w => ref_Mod b P w (by omega) (by omega))
  have M2 := Lib.hid (fun a w => ref_Mod a P w (by omega) (by omega))
  obtain ⟨c, hc⟩ : ∃ c, b % P = c := ⟨_, rfl⟩
  rw [hc] at b0 b1 M1 UQ OK
  clear hb hp hK hc
  obtain ⟨W, hW⟩ : ∃ W, w.alloc (.cells #[.int .i64 P, .int .i64 A, .int .i64 B] 32) = W := ⟨_, rfl⟩
  have B0 := show W.heap[w.heap.size]? = some (.cells #[.int .i64 P, .int .i64 A, .int .i64 B] 32 (0, 0)) from hW ▸ Lw.blk_new _ _ _
  have l0 := Lw.blk_cell B0 0
  simp at l0
  have hBW : Below w.heap.size w W := by rw [← hW]; exact Lw.balloc (Below.refl _ _) _
  have HW := Lib.hid hW
  clear hW B0
  go_enter Try.func63, Try.ntmps63
  go_wp2
  rw [HW.out]
  go_loopw [7] (fun i wr => ∃ k : Nat, k ≤ K ∧ i = .int .i64 (k : Int) ∧ ∃ d, wr = W.drewN d) (fun i _ => K - (intOf i).toNat)
  case atStart => exact ⟨0, by omega, rfl, 0, rfl⟩
  case round =>
    obtain ⟨k, k1, rfl, d, rfl⟩ := hrel
    obtain ⟨m0, m1⟩ := Lw.mul_bd' (k : Int) c 1009 (by omega) (by omega) b0 (by omega)
    have e1 : IntKind.i64.wrap ((k : Int) * c) = k * c := by rw [IntKind.wrap_i64]; omega
    have e2 : IntKind.i64.wrap ((k : Int) * c - a) = k * c - a := by rw [IntKind.wrap_i64]; omega
    by_cases hk : k = K
    · subst hk
      have M3 := fun w => M2.out ((k : Int) * c - a) w
      rw [OK.out] at M3
      replace M3 := Lib.hid M3
      have hkP : (k : Int) < P := by omega
      go_wp2
      go_quiet ((go_at_call 31; first | with_reducible exact Lw.quietE (M1.out _) | with_reducible exact Lw.quietE (M3.out _)))
      go_wp2
      go_ret
      exact ⟨rfl, Lw.bdrewN (Lw.bdrewN hBW _) _⟩
    · have M3 := fun w => M2.out ((k : Int) * c - a) w
      have ne : ((((k : Int) * c - a) % P) == 0) = false := by
        simpa using fun h => hk (by have := UQ.out k (by omega) (by omega) h; omega)
      obtain ⟨r, hr⟩ : ∃ r, ((k : Int) * c - a) % P = r := ⟨_, rfl⟩
      rw [hr] at M3 ne
      replace M3 := Lib.hid M3
      have hkP : (k : Int) < P := by omega
      clear hr
      go_wp2
      go_quiet ((go_at_call 31; first | with_reducible exact Lw.quietE (M1.out _) | with_reducible exact Lw.quietE (M3.out _)))
      go_wp2
      go_roundw
      case rel => exact ⟨k + 1, by omega, by go_num, _, rfl⟩
      case measure => simp [intOf]; omega
set_option maxHeartbeats 2000000 in
theorem ref_SpotAdd_far (P A B X Y X' Y' : Int) (F F' : Bool) (w : World) (h : F = true ∨ F' = true) :
    Calls Try.prog 36 #[.agg #[.int .i64 P, .int .i64 A, .int .i64 B], .agg #[.int .i64 X, .int .i64 Y, .bool F], .agg #[.int .i64 X', .int .i64 Y', .bool F']] w fun e w' => e = .returned (Lw.addT P A ⟨X, Y, F⟩ ⟨X', Y', F'⟩).v ∧ Below w.heap.size w w' := by
  cases F with
  | true =>
    have E : Hid ((Lw.addT P A ⟨X, Y, true⟩ ⟨X', Y', F'⟩).v = .agg #[.int .i64 X', .int .i64 Y', .bool F']) := by rw [Lw.addT_far1 rfl]; exact rfl
    clear h
    go_enter Try.func36, Try.ntmps36
    go_wp2_with fail
    refine bodyPost_ret (v := .agg #[.int .i64 X', .int .i64 Y', .bool F']) (by simp only [results, Try.results36]; simp [go_sem]) rfl ⟨by rw [E.out], by (repeat (first | exact Below.refl _ _ | refine Lw.bt ?_ (by assumption) | refine Lw.balloc ?_ _ | refine Lw.bdrewN ?_ _ | refine Below.drew ?_ | refine Lw.bset ?_ (by first | (simp; done) | (simp; omega) | omega) _))⟩
  | false =>
    have h' : F' = true := by simpa using h
    subst h'
    have E : Hid ((Lw.addT P A ⟨X, Y, false⟩ ⟨X', Y', true⟩).v = .agg #[.int .i64 X, .int .i64 Y, .bool false]) := by rw [Lw.addT_far2 rfl rfl]; exact rfl
    clear h
    go_enter Try.func36, Try.ntmps36
    go_wp2_with fail
    refine bodyPost_ret (v := .agg #[.int .i64 X, .int .i64 Y, .bool false]) (by simp only [results, Try.results36]; simp [go_sem]) rfl ⟨by rw [E.out], by (repeat (first | exact Below.refl _ _ | refine Lw.bt ?_ (by assumption) | refine Lw.balloc ?_ _ | refine Lw.bdrewN ?_ _ | refine Below.drew ?_ | refine Lw.bset ?_ (by first | (simp; done) | (simp; omega) | omega) _))⟩
set_option maxHeartbeats 2000000 in
theorem ref_SpotAdd_neg (P A B X Y X' Y' : Int) (w : World) (hc : Lw.crvR P A B) (hs : Lw.spotB P A B X Y false = true) (ht : Lw.spotB P A B X' Y' false = true) (hn : X = X' ∧ Y = (-Y') % P) :
    Calls Try.prog 36 #[.agg #[.int .i64 P, .int .i64 A, .int .i64 B], .agg #[.int .i64 X, .int .i64 Y, .bool false], .agg #[.int .i64 X', .int .i64 Y', .bool false]] w fun e w' => e = .returned (Lw.addT P A ⟨X, Y, false⟩ ⟨X', Y', false⟩).v ∧ Below w.heap.size w w' := by
  have E : Hid ((Lw.addT P A ⟨X, Y, false⟩ ⟨X', Y', false⟩).v = .agg #[.int .i64 0, .int .i64 0, .bool true]) := by rw [Lw.addT_neg rfl rfl hn]; exact rfl
  have hm := (Lw.neg_iff (P := P) (A := A) (B := B) (s := ⟨X, Y, false⟩) (t := ⟨X', Y', false⟩) (by have := hc.1; omega) rfl rfl (Lw.spot_in hs).1 (Lw.spot_in ht).1).1 hn
  simp only at hm
  have NG := fun w => ref_SpotNeg P A B X Y false w hc hs
  have NV : (Lw.negT P ⟨X, Y, false⟩).v = .agg #[.int .i64 X, .int .i64 Y', .bool false] := by unfold Lw.negT; rw [hm.2]; exact rfl
  rw [NV] at NG
  replace NG := Lib.hid NG
  have t1 : (X' == X) = true := by simpa using hm.1
  clear NV hm hn hs ht hc
  obtain ⟨W, hW⟩ : ∃ W, (((w.alloc (.cells #[.int .i64 P, .int .i64 A, .int .i64 B] 32)).alloc (.cells #[.int .i64 X, .int .i64 Y, .bool false] 36)).alloc (.cells #[.int .i64 X', .int .i64 Y', .bool false] 36)).alloc (.cells #[.int .i64 0, .int .i64 0, .bool false] 36) = W := ⟨_, rfl⟩
  have B0 := show W.heap[w.heap.size]? = some (.cells #[.int .i64 P, .int .i64 A, .int .i64 B] 32 (0, 0)) from hW ▸ Lw.blk_alloc (Lw.blk_alloc (Lw.blk_alloc (Lw.blk_new _ _ _) _) _) _
  have B1 := show W.heap[w.heap.size + 1]? = some (.cells #[.int .i64 X, .int .i64 Y, .bool false] 36 (0, 0)) from hW ▸ Lw.blk_alloc (Lw.blk_alloc (Lw.blk_new' (by simp) _ _) _) _
  have B2 := show W.heap[w.heap.size + 1 + 1]? = some (.cells #[.int .i64 X', .int .i64 Y', .bool false] 36 (0, 0)) from hW ▸ Lw.blk_alloc (Lw.blk_new' (by simp) _ _) _
  have B3 := Lib.hid (show W.heap[w.heap.size + 1 + 1 + 1]? = some (.cells #[.int .i64 0, .int .i64 0, .bool false] 36 (0, 0)) from hW ▸ Lw.blk_new' (by simp) _ _)
  have l0 := Lw.blk_cell B0 0; have l1 := Lw.blk_cell B0 1; have l2 := Lw.blk_cell B0 2
  have k0 := Lw.blk_cell B1 0; have k1 := Lw.blk_cell B1 1; have k2 := Lw.blk_cell B1 2
  have m0 := Lw.blk_cell B2 0; have m1 := Lw.blk_cell B2 1; have m2 := Lw.blk_cell B2 2
  simp at l0 l1 l2 k0 k1 k2 m0 m1 m2
  have hBW : Below w.heap.size w W := by rw [← hW]; exact Lw.balloc (Lw.balloc (Lw.balloc (Lw.balloc (Below.refl _ _) _) _) _) _
  have hWs3 : w.heap.size + 1 + 1 + 1 < W.heap.size := by rw [← hW]; simp
  have hWs : w.heap.size < W.heap.size := by omega
  have hWs1 : w.heap.size + 1 < W.heap.size := by omega
  have hWs2 : w.heap.size + 1 + 1 < W.heap.size := by omega
  have HW := Lib.hid hW
  clear hW B0 B1 B2

  go_enter Try.func36, Try.ntmps36
  go_wp2_with fail
  rw [HW.out]
  refine wp_region_held_drew (S := Lw.Sm W) (by kernel_rfl) (Lw.sm_drew W) (fun hHeld => ?_)
  (refine Lw.take1 (i := 0) (v := ?_) rfl (by kernel_rfl) (by kernel_rfl) (by kernel_rfl) (fun _ _ _ h => h) (Or.inl ⟨by rfl, ?_⟩) (by assumption) ?_; rotate_left 1; (focus (intro wS hSw; obtain ⟨hS1, hS2, hS3, hS4⟩ := hSw; go_simp <;> with_reducible rfl)); (try simp only [Act.put, List.setIfInBounds_toArray, List.set_cons_zero, List.set_cons_succ]))
  (refine Lw.take1 (i := 1) (v := ?_) rfl (by kernel_rfl) (by kernel_rfl) (by kernel_rfl) (fun _ _ _ h => h) (Or.inl ⟨by rfl, ?_⟩) (by assumption) ?_; rotate_left 1; (focus (intro wS hSw; obtain ⟨hS1, hS2, hS3, hS4⟩ := hSw; go_simp <;> with_reducible rfl)); (try simp only [Act.put, List.setIfInBounds_toArray, List.set_cons_zero, List.set_cons_succ]))
  (refine Lw.take1 (i := 2) (v := ?_) rfl (by kernel_rfl) (by kernel_rfl) (by kernel_rfl) (fun _ _ _ h => h) (Or.inl ⟨by rfl, ?_⟩) (by assumption) ?_; rotate_left 1; (focus (intro wS hSw; obtain ⟨hS1, hS2, hS3, hS4⟩ := hSw; go_simp <;> with_reducible rfl)); (try simp only [Act.put, List.setIfInBounds_toArray, List.set_cons_zero, List.set_cons_succ]))
  (refine wpAnyH_ready (rs := [3]) (by kernel_rfl) (by simp) ?_; refine Lw.cons1 (i := 3) rfl (fun K hK => ?_) AllReadyH.nil; go_simp; go_at_call 24; (with_reducible refine (NG.out _).mono ?_); rintro e wx ⟨rfl, hbx⟩; refine hK.out _ _ ?_ (fun hHeld => ?_); (focus exact Lw.sm_keep (Lw.sm_drew W) hbx); clear hK K; (try simp only [Act.put, List.setIfInBounds_toArray, List.set_cons_zero, List.set_cons_succ]))
  (refine Lw.take1 (i := 4) (v := ?_) rfl (by kernel_rfl) (by kernel_rfl) (by kernel_rfl) (fun _ _ _ h => h) (Or.inl ⟨by rfl, ?_⟩) (by assumption) ?_; rotate_left 1; (focus (intro wS hSw; obtain ⟨hS1, hS2, hS3, hS4⟩ := hSw; go_simp <;> with_reducible rfl)); (try simp only [Act.put, List.setIfInBounds_toArray, List.set_cons_zero, List.set_cons_succ]))
  refine wpAnyH_done (by kernel_rfl) ?_ _
  have hS := Lw.sm_keep (Lw.sm_drew W) hbx
  have D2 := (hS.2.2.2.block (w.heap.size + 1 + 1 + 1) hWs3).trans B3.out
  have hHB := Lw.bt hBW hS.2.2.2
  have f1 := Lw.blk_free D2 0; have f2 := Lw.blk_free D2 1; have f3 := Lw.blk_free D2 2; have c1 := Lw.blk_cell D2 0; have c2 := Lw.blk_cell D2 1; have c3 := Lw.blk_cell D2 2
  simp at c1 c2 c3
  obtain ⟨r0, r1, r2⟩ := Lw.set3c (x := .int .i64 0) (y := .int .i64 0) (z := .bool true) D2
  have r0 := Lib.hid r0; have r1 := Lib.hid r1; have r2 := Lib.hid r2
  clear D2
  go_wp2_with fail
  refine bodyPost_ret (v := .agg #[.int .i64 0, .int .i64 0, .bool true]) (by simp only [results, Try.results36]; simp [go_sem, r0.out, r1.out, r2.out]) rfl ⟨by rw [E.out], Lw.bset3 hHB (by omega) _ _ _⟩
set_option maxHeartbeats 4000000 in
theorem ref_SpotAdd_sum (P A B X Y X' Y' : Int) (w : World) (hc : Lw.crvR P A B) (hp : Lw.primeB P = true) (hs : Lw.spotB P A B X Y false = true) (ht : Lw.spotB P A B X' Y' false = true) (hn : ¬ (X = X' ∧ Y = (-Y') % P)) :
    Calls Try.prog 36 #[.agg #[.int .i64 P, .int .i64 A, .int .i64 B], .agg #[.int .i64 X, .int .i64 Y, .bool false], .agg #[.int .i64 X', .int .i64 Y', .bool false]] w fun e w' => e = .returned (Lw.addT P A ⟨X, Y, false⟩ ⟨X', Y', false⟩).v ∧ Below w.heap.size w w' := by
  obtain ⟨hs1, hs2⟩ := Lw.spot_in hs
  obtain ⟨ht1, ht2⟩ := Lw.spot_in ht
  have hm := fun h => hn ((Lw.neg_iff (P := P) (A := A) (B := B) (s := ⟨X, Y, false⟩) (t := ⟨X', Y', false⟩) (by have := hc.1; omega) rfl rfl hs1 ht1).2 h)
  have hsl := Lw.slope_ok (A := A) (B := B) (s := ⟨X, Y, false⟩) (t := ⟨X', Y', false⟩) hp hc.1 rfl rfl hs1 ht1 hs2 ht2 hn
  simp only at hm hsl
  have NG := fun w => ref_SpotNeg P A B X Y false w hc hs
  obtain ⟨x0, x1, y0, y1⟩ := hs1
  obtain ⟨u0, u1, v0, v1⟩ := ht1
  obtain ⟨p1, h2, a0, a1, b0, b1⟩ := hc
  have h1 : 0 < P := by omega
  obtain ⟨k, hk⟩ : ∃ k, Lw.slopeI P A ⟨X, Y, false⟩ ⟨X', Y', false⟩ = k := ⟨_, rfl⟩
  have kb : 0 ≤ k ∧ k < P := by rw [← hk]; unfold Lw.slopeI; split <;> exact Lw.ovI_bd h1 _ _
  obtain ⟨x, hx⟩ : ∃ x, Lw.sumX P k ⟨X, Y, false⟩ ⟨X', Y', false⟩ = x := ⟨_, rfl⟩
  obtain ⟨y, hy⟩ : ∃ y, Lw.sumY P k x ⟨X, Y, false⟩ = y := ⟨_, rfl⟩
  have xb : 0 ≤ x ∧ x < P := by rw [← hx]; exact Lw.emod_bd _ _ h1
  have E : Hid ((Lw.addT P A ⟨X, Y, false⟩ ⟨X', Y', false⟩).v = .agg #[.int .i64 x, .int .i64 y, .bool false]) := by rw [Lw.addT_sum rfl rfl hn hk, hx, hy]; exact rfl
  obtain ⟨n, hn'⟩ : ∃ n, (-Y) % P = n := ⟨_, rfl⟩
  have NV : (Lw.negT P ⟨X, Y, false⟩).v = .agg #[.int .i64 X, .int .i64 n, .bool false] := by unfold Lw.negT; rw [← hn']; exact rfl
  rw [NV] at NG
  rw [hn'] at hm
  replace NG := Lib.hid NG
  have MX := fun w => ref_Mod (k * k - X - X') P w h1 (by omega)
  have MY := fun w => ref_Mod (k * (X - x) - Y) P w h1 (by omega)
  have hx' : (k * k - X - X') % P = x := hx
  have hy' : (k * (X - x) - Y) % P = y := hy
  rw [hx'] at MX
  rw [hy'] at MY
  replace MX := Lib.hid MX
  replace MY := Lib.hid MY
  obtain ⟨s0, s1⟩ := Lw.mul_bd' X X 1009 x0 (by omega) x0 (by omega)
  obtain ⟨kk0, kk1⟩ := Lw.mul_bd' k k 1009 kb.1 (by omega) kb.1 (by omega)
  have kx : -1018081 ≤ k * (X - x) ∧ k * (X - x) ≤ 1018081 := by
    have := Lw.mul_bd' k X 1009 kb.1 (by omega) x0 (by omega)
    have := Lw.mul_bd' k x 1009 kb.1 (by omega) xb.1 (by omega)
    rw [Int.mul_sub]; omega
  obtain ⟨kx0, kx1⟩ := kx
  have sb : 0 ≤ 3 * X * X + A ∧ 3 * X * X + A ≤ 4194304 := by rw [Int.mul_assoc]; omega
  have e1 : IntKind.i64.wrap (3 * X * X) = 3 * X * X := by rw [IntKind.wrap_i64, Int.mul_assoc]; omega
  have e2 : IntKind.i64.wrap (3 * X * X + A) = 3 * X * X + A := by rw [IntKind.wrap_i64, Int.mul_assoc]; omega
  have e3 : IntKind.i64.wrap (k * k) = k * k := by rw [IntKind.wrap_i64]; omega
  have e4 : IntKind.i64.wrap (k * k - X) = k * k - X := by rw [IntKind.wrap_i64]; omega
  have e5 : IntKind.i64.wrap (k * k - X - X') = k * k - X - X' := by rw [IntKind.wrap_i64]; omega
  have e6 : IntKind.i64.wrap (k * (X - x)) = k * (X - x) := by rw [IntKind.wrap_i64]; omega
  have e7 : IntKind.i64.wrap (k * (X - x) - Y) = k * (X - x) - Y := by rw [IntKind.wrap_i64]; omega
  obtain ⟨kb0, kb1⟩ := kb
  obtain ⟨xb0, xb1⟩ := xb
  have hall : ((X == X') = true ∧ (X' == X) = true ∧ (Y' == n) = false ∧ (Y == Y') = true ∧ k = Lw.ovI P (3 * X * X + A) (2 * Y) ∧ ¬ (2 * Y) % P = 0) ∨ (((X == X') = true ∧ (X' == X) = true ∧ (Y' == n) = false ∧ (Y == Y') = false ∨ (X == X') = false ∧ (X' == X) = false) ∧ k = Lw.ovI P (Y' - Y) (X' - X) ∧ ¬ (X' - X) % P = 0) := by
    rcases hsl with ⟨h1, h2, h3⟩ | ⟨h1, h3⟩
    · left
      refine ⟨by simpa using h1, by simpa using h1.symm, by simpa using fun e => hm ⟨h1.symm, e⟩, by simpa using h2, ?_, h3⟩
      rw [← hk]; exact if_pos ⟨h1, h2⟩
    · right
      refine ⟨?_, ?_, h3⟩
      · by_cases hxx : X = X'
        · left; exact ⟨by simpa using hxx, by simpa using hxx.symm, by simpa using fun e => hm ⟨hxx.symm, e⟩, by simpa using fun e => h1 ⟨hxx, e⟩⟩
        · right; exact ⟨by simpa using hxx, by simpa using fun e => hxx e.symm⟩
      · rw [← hk]; exact if_neg h1
  clear NV hn hm hx hy hx' hy' hk hn' hsl hs ht hs2 ht2
  obtain ⟨W, hW⟩ : ∃ W, (((w.alloc (.cells #[.int .i64 P, .int .i64 A, .int .i64 B] 32)).alloc (.cells #[.int .i64 X, .int .i64 Y, .bool false] 36)).alloc (.cells #[.int .i64 X', .int .i64 Y', .bool false] 36)).alloc (.cells #[.int .i64 0, .int .i64 0, .bool false] 36) = W := ⟨_, rfl⟩
  have B0 := show W.heap[w.heap.size]? = some (.cells #[.int .i64 P, .int .i64 A, .int .i64 B] 32 (0, 0)) from hW ▸ Lw.blk_alloc (Lw.blk_alloc (Lw.blk_alloc (Lw.blk_new _ _ _) _) _) _
  have B1 := show W.heap[w.heap.size + 1]? = some (.cells #[.int .i64 X, .int .i64 Y, .bool false] 36 (0, 0)) from hW ▸ Lw.blk_alloc (Lw.blk_alloc (Lw.blk_new' (by simp) _ _) _) _
  have B2 := show W.heap[w.heap.size + 1 + 1]? = some (.cells #[.int .i64 X', .int .i64 Y', .bool false] 36 (0, 0)) from hW ▸ Lw.blk_alloc (Lw.blk_new' (by simp) _ _) _
  have B3 := Lib.hid (show W.heap[w.heap.size + 1 + 1 + 1]? = some (.cells #[.int .i64 0, .int .i64 0, .bool false] 36 (0, 0)) from hW ▸ Lw.blk_new' (by simp) _ _)
  have l0 := Lw.blk_cell B0 0; have l1 := Lw.blk_cell B0 1; have l2 := Lw.blk_cell B0 2
  have k0 := Lw.blk_cell B1 0; have k1 := Lw.blk_cell B1 1; have k2 := Lw.blk_cell B1 2
  have m0 := Lw.blk_cell B2 0; have m1 := Lw.blk_cell B2 1; have m2 := Lw.blk_cell B2 2
  simp at l0 l1 l2 k0 k1 k2 m0 m1 m2
  have hBW : Below w.heap.size w W := by rw [← hW]; exact Lw.balloc (Lw.balloc (Lw.balloc (Lw.balloc (Below.refl _ _) _) _) _) _
  have hWs3 : w.heap.size + 1 + 1 + 1 < W.heap.size := by rw [← hW]; simp
  have hWs : w.heap.size < W.heap.size := by omega
  have hWs1 : w.heap.size + 1 < W.heap.size := by omega
  have hWs2 : w.heap.size + 1 + 1 < W.heap.size := by omega
  have HW := Lib.hid hW
  clear hW B0 B1 B2

  rcases hall with ⟨t1, t2, t3, t4, hk, hnz⟩ | ⟨hor, hk, hnz⟩
  · have O2 := fun w => ref_over P A B (3 * X * X + A) (2 * Y) w hp (by omega) h2 hnz (by omega) (by omega)
    rw [← hk] at O2
    replace O2 := Lib.hid O2
    clear hk hp hnz
    go_enter Try.func36, Try.ntmps36
    go_wp2_with fail
    rw [HW.out]
    refine wp_region_held_drew (S := Lw.Sm W) (by kernel_rfl) (Lw.sm_drew W) (fun hHeld => ?_)
    (refine Lw.take1 (i := 0) (v := ?_) rfl (by kernel_rfl) (by kernel_rfl) (by kernel_rfl) (fun _ _ _ h => h) (Or.inl ⟨by rfl, ?_⟩) (by assumption) ?_; rotate_left 1; (focus (intro wS hSw; obtain ⟨hS1, hS2, hS3, hS4⟩ := hSw; go_simp <;> with_reducible rfl)); (try simp only [Act.put, List.setIfInBounds_toArray, List.set_cons_zero, List.set_cons_succ]))
    (refine Lw.take1 (i := 1) (v := ?_) rfl (by kernel_rfl) (by kernel_rfl) (by kernel_rfl) (fun _ _ _ h => h) (Or.inl ⟨by rfl, ?_⟩) (by assumption) ?_; rotate_left 1; (focus (intro wS hSw; obtain ⟨hS1, hS2, hS3, hS4⟩ := hSw; go_simp <;> with_reducible rfl)); (try simp only [Act.put, List.setIfInBounds_toArray, List.set_cons_zero, List.set_cons_succ]))
    (refine Lw.take1 (i := 2) (v := ?_) rfl (by kernel_rfl) (by kernel_rfl) (by kernel_rfl) (fun _ _ _ h => h) (Or.inl ⟨by rfl, ?_⟩) (by assumption) ?_; rotate_left 1; (focus (intro wS hSw; obtain ⟨hS1, hS2, hS3, hS4⟩ := hSw; go_simp <;> with_reducible rfl)); (try simp only [Act.put, List.setIfInBounds_toArray, List.set_cons_zero, List.set_cons_succ]))
    (refine wpAnyH_ready (rs := [3]) (by kernel_rfl) (by simp) ?_; refine Lw.cons1 (i := 3) rfl (fun K hK => ?_) AllReadyH.nil; go_simp; go_at_call 24; (with_reducible refine (NG.out _).mono ?_); rintro e wx ⟨rfl, hbx⟩; refine hK.out _ _ ?_ (fun hHeld => ?_); (focus exact Lw.sm_keep (Lw.sm_drew W) hbx); clear hK K; (try simp only [Act.put, List.setIfInBounds_toArray, List.set_cons_zero, List.set_cons_succ]))
    (refine Lw.take1 (i := 4) (v := ?_) rfl (by kernel_rfl) (by kernel_rfl) (by kernel_rfl) (fun _ _ _ h => h) (Or.inl ⟨by rfl, ?_⟩) (by assumption) ?_; rotate_left 1; (focus (intro wS hSw; obtain ⟨hS1, hS2, hS3, hS4⟩ := hSw; go_simp <;> with_reducible rfl)); (try simp only [Act.put, List.setIfInBounds_toArray, List.set_cons_zero, List.set_cons_succ]))
    refine wpAnyH_done (by kernel_rfl) ?_ _
    have hS := Lw.sm_keep (Lw.sm_drew W) hbx
    (have q0 := (hS.1 ⟨w.heap.size, 0, none⟩ hWs).trans l0; have q1 := (hS.1 ⟨w.heap.size, 1, none⟩ hWs).trans l1; have q2 := (hS.1 ⟨w.heap.size, 2, none⟩ hWs).trans l2; have q3 := (hS.1 ⟨w.heap.size + 1, 0, none⟩ hWs1).trans k0; have q4 := (hS.1 ⟨w.heap.size + 1, 1, none⟩ hWs1).trans k1; have q5 := (hS.1 ⟨w.heap.size + 1, 2, none⟩ hWs1).trans k2; have q6 := (hS.1 ⟨w.heap.size + 1 + 1, 0, none⟩ hWs2).trans m0; have q7 := (hS.1 ⟨w.heap.size + 1 + 1, 1, none⟩ hWs2).trans m1; have q8 := (hS.1 ⟨w.heap.size + 1 + 1, 2, none⟩ hWs2).trans m2)
    go_wp2_with (first | (go_at_call 63; ((with_reducible refine (O2.out _).mono ?_); rintro e w1 ⟨rfl, hb1⟩; have hS1 := Lw.sm_keep hS hb1; (have q0 := (hS1.1 ⟨w.heap.size, 0, none⟩ hWs).trans l0; have q1 := (hS1.1 ⟨w.heap.size, 1, none⟩ hWs).trans l1; have q2 := (hS1.1 ⟨w.heap.size, 2, none⟩ hWs).trans l2; have q3 := (hS1.1 ⟨w.heap.size + 1, 0, none⟩ hWs1).trans k0; have q4 := (hS1.1 ⟨w.heap.size + 1, 1, none⟩ hWs1).trans k1; have q5 := (hS1.1 ⟨w.heap.size + 1, 2, none⟩ hWs1).trans k2; have q6 := (hS1.1 ⟨w.heap.size + 1 + 1, 0, none⟩ hWs2).trans m0; have q7 := (hS1.1 ⟨w.heap.size + 1 + 1, 1, none⟩ hWs2).trans m1; have q8 := (hS1.1 ⟨w.heap.size + 1 + 1, 2, none⟩ hWs2).trans m2); have D2 := (hS1.2.2.2.block (w.heap.size + 1 + 1 + 1) hWs3).trans B3.out; have f1 := Lw.blk_free D2 0; have f2 := Lw.blk_free D2 1; have f3 := Lw.blk_free D2 2; have c1 := Lw.blk_cell D2 0; have c2 := Lw.blk_cell D2 1; have c3 := Lw.blk_cell D2 2; simp at c1 c2 c3)) | (go_at_call 31; first | ((with_reducible refine (MX.out _).mono ?_); rintro e w' ⟨rfl, rfl⟩) | ((with_reducible refine (MY.out _).mono ?_); rintro e w' ⟨rfl, rfl⟩)))
    obtain ⟨r0, r1, r2⟩ := Lw.set3c (x := .int .i64 x) (y := .int .i64 y) (z := .bool false) D2
    refine bodyPost_ret (v := .agg #[.int .i64 x, .int .i64 y, .bool false]) (by simp only [results, Try.results36]; simp [go_sem, r0, r1, r2]) rfl ⟨by rw [E.out], Lw.bset3 (Lw.bt hBW hS1.2.2.2) (by omega) _ _ _⟩
  · have O2 := fun w => ref_over P A B (Y' - Y) (X' - X) w hp (by omega) h2 hnz (by omega) (by omega)
    rw [← hk] at O2
    replace O2 := Lib.hid O2
    clear hk hp hnz
    rcases hor with ⟨t1, t2, t3, t4⟩ | ⟨t1, t2⟩
    all_goals
      go_enter Try.func36, Try.ntmps36
      go_wp2_with fail
      rw [HW.out]
      refine wp_region_held_drew (S := Lw.Sm W) (by kernel_rfl) (Lw.sm_drew W) (fun hHeld => ?_)
      (refine Lw.take1 (i := 0) (v := ?_) rfl (by kernel_rfl) (by kernel_rfl) (by kernel_rfl) (fun _ _ _ h => h) (Or.inl ⟨by rfl, ?_⟩) (by assumption) ?_; rotate_left 1; (focus (intro wS hSw; obtain ⟨hS1, hS2, hS3, hS4⟩ := hSw; go_simp <;> with_reducible rfl)); (try simp only [Act.put, List.setIfInBounds_toArray, List.set_cons_zero, List.set_cons_succ]))
      (refine Lw.take1 (i := 1) (v := ?_) rfl (by kernel_rfl) (by kernel_rfl) (by kernel_rfl) (fun _ _ _ h => h) (Or.inl ⟨by rfl, ?_⟩) (by assumption) ?_; rotate_left 1; (focus (intro wS hSw; obtain ⟨hS1, hS2, hS3, hS4⟩ := hSw; go_simp <;> with_reducible rfl)); (try simp only [Act.put, List.setIfInBounds_toArray, List.set_cons_zero, List.set_cons_succ]))
      (refine Lw.take1 (i := 2) (v := ?_) rfl (by kernel_rfl) (by kernel_rfl) (by kernel_rfl) (fun _ _ _ h => h) (Or.inl ⟨by rfl, ?_⟩) (by assumption) ?_; rotate_left 1; (focus (intro wS hSw; obtain ⟨hS1, hS2, hS3, hS4⟩ := hSw; go_simp <;> with_reducible rfl)); (try simp only [Act.put, List.setIfInBounds_toArray, List.set_cons_zero, List.set_cons_succ]))
      (refine wpAnyH_ready (rs := [3]) (by kernel_rfl) (by simp) ?_; refine Lw.cons1 (i := 3) rfl (fun K hK => ?_) AllReadyH.nil; go_simp; go_at_call 24; (with_reducible refine (NG.out _).mono ?_); rintro e wx ⟨rfl, hbx⟩; refine hK.out _ _ ?_ (fun hHeld => ?_); (focus exact Lw.sm_keep (Lw.sm_drew W) hbx); clear hK K; (try simp only [Act.put, List.setIfInBounds_toArray, List.set_cons_zero, List.set_cons_succ]))
      (refine Lw.take1 (i := 4) (v := ?_) rfl (by kernel_rfl) (by kernel_rfl) (by kernel_rfl) (fun _ _ _ h => h) (Or.inl ⟨by rfl, ?_⟩) (by assumption) ?_; rotate_left 1; (focus (intro wS hSw; obtain ⟨hS1, hS2, hS3, hS4⟩ := hSw; go_simp <;> with_reducible rfl)); (try simp only [Act.put, List.setIfInBounds_toArray, List.set_cons_zero, List.set_cons_succ]))
      refine wpAnyH_done (by kernel_rfl) ?_ _
      have hS := Lw.sm_keep (Lw.sm_drew W) hbx
      (have q0 := (hS.1 ⟨w.heap.size, 0, none⟩ hWs).trans l0; have q1 := (hS.1 ⟨w.heap.size, 1, none⟩ hWs).trans l1; have q2 := (hS.1 ⟨w.heap.size, 2, none⟩ hWs).trans l2; have q3 := (hS.1 ⟨w.heap.size + 1, 0, none⟩ hWs1).trans k0; have q4 := (hS.1 ⟨w.heap.size + 1, 1, none⟩ hWs1).trans k1; have q5 := (hS.1 ⟨w.heap.size + 1, 2, none⟩ hWs1).trans k2; have q6 := (hS.1 ⟨w.heap.size + 1 + 1, 0, none⟩ hWs2).trans m0; have q7 := (hS.1 ⟨w.heap.size + 1 + 1, 1, none⟩ hWs2).trans m1; have q8 := (hS.1 ⟨w.heap.size + 1 + 1, 2, none⟩ hWs2).trans m2)
      go_wp2_with (first | (go_at_call 63; ((with_reducible refine (O2.out _).mono ?_); rintro e w1 ⟨rfl, hb1⟩; have hS1 := Lw.sm_keep hS hb1; (have q0 := (hS1.1 ⟨w.heap.size, 0, none⟩ hWs).trans l0; have q1 := (hS1.1 ⟨w.heap.size, 1, none⟩ hWs).trans l1; have q2 := (hS1.1 ⟨w.heap.size, 2, none⟩ hWs).trans l2; have q3 := (hS1.1 ⟨w.heap.size + 1, 0, none⟩ hWs1).trans k0; have q4 := (hS1.1 ⟨w.heap.size + 1, 1, none⟩ hWs1).trans k1; have q5 := (hS1.1 ⟨w.heap.size + 1, 2, none⟩ hWs1).trans k2; have q6 := (hS1.1 ⟨w.heap.size + 1 + 1, 0, none⟩ hWs2).trans m0; have q7 := (hS1.1 ⟨w.heap.size + 1 + 1, 1, none⟩ hWs2).trans m1; have q8 := (hS1.1 ⟨w.heap.size + 1 + 1, 2, none⟩ hWs2).trans m2); have D2 := (hS1.2.2.2.block (w.heap.size + 1 + 1 + 1) hWs3).trans B3.out; have f1 := Lw.blk_free D2 0; have f2 := Lw.blk_free D2 1; have f3 := Lw.blk_free D2 2; have c1 := Lw.blk_cell D2 0; have c2 := Lw.blk_cell D2 1; have c3 := Lw.blk_cell D2 2; simp at c1 c2 c3)) | (go_at_call 31; first | ((with_reducible refine (MX.out _).mono ?_); rintro e w' ⟨rfl, rfl⟩) | ((with_reducible refine (MY.out _).mono ?_); rintro e w' ⟨rfl, rfl⟩)))
      obtain ⟨r0, r1, r2⟩ := Lw.set3c (x := .int .i64 x) (y := .int .i64 y) (z := .bool false) D2
      refine bodyPost_ret (v := .agg #[.int .i64 x, .int .i64 y, .bool false]) (by simp only [results, Try.results36]; simp [go_sem, r0, r1, r2]) rfl ⟨by rw [E.out], Lw.bset3 (Lw.bt hBW hS1.2.2.2) (by omega) _ _ _⟩
theorem ref_SpotAdd (P A B X Y X' Y' : Int) (F F' : Bool) (w : World) (hc : Lw.crvR P A B) (hp : Lw.primeB P = true) (hs : Lw.spotB P A B X Y F = true) (ht : Lw.spotB P A B X' Y' F' = true) :
    Calls Try.prog 36 #[.agg #[.int .i64 P, .int .i64 A, .int .i64 B], .agg #[.int .i64 X, .int .i64 Y, .bool F], .agg #[.int .i64 X', .int .i64 Y', .bool F']] w fun e w' => e = .returned (Lw.addT P A ⟨X, Y, F⟩ ⟨X', Y', F'⟩).v ∧ Below w.heap.size w w' := by
  cases F with
  | true => exact ref_SpotAdd_far P A B X Y X' Y' _ _ w (.inl rfl)
  | false =>
    cases F' with
    | true => exact ref_SpotAdd_far P A B X Y X' Y' _ _ w (.inr rfl)
    | false =>
      by_cases hn : X = X' ∧ Y = (-Y') % P
      · exact ref_SpotAdd_neg P A B X Y X' Y' w hc hs ht hn
      · exact ref_SpotAdd_sum P A B X Y X' Y' w hc hp hs ht hn
end Go.Proofs.Ytoignifimgioaaa

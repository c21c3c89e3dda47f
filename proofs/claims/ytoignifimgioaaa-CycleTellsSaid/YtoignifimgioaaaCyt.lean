/- maker.after, cycle.Cycle and the reference's Cycle. -/
import Derived.Test.YtoignifimgioaaaCyo
namespace Lw
/-- the numbers, and where they come round: tail i, size s -/
def Rnd (c n x : Int) (i s : Nat) : Prop := FirstRep (seqN (c % n) n (x % n)) i (i + s)
theorem ex_rnd (c x : Int) {n : Int} (h : 1 ≤ n) : ∃ i s : Nat, 1 ≤ s ∧ ((i + s : Nat) : Int) ≤ n ∧ Rnd c n x i s := by
  obtain ⟨i, j, h1, h2⟩ := seq_first (c := c % n) (n := n) (x := x % n) (by omega) (Int.emod_nonneg x (by omega)) (Int.emod_lt_of_pos x (by omega))
  have := h2.1
  exact ⟨i, j - i, by omega, by omega, by unfold Rnd; rwa [show i + (j - i) = j by omega]⟩
section
variable {c n x : Int} {i s : Nat} (hn : 1 ≤ n)
include hn
theorem rnd_eq {a b : Nat} : seqN (c % n) n (x % n) a = seqN (c % n) n (x % n) b ↔ itI (c % n) n (x % n) a = itI (c % n) n (x % n) b := seqN_eq (by omega) (Int.emod_nonneg x (by omega)) (Int.emod_lt_of_pos x (by omega))
theorem rnd_det : ∀ a b, seqN (c % n) n (x % n) a = seqN (c % n) n (x % n) b → seqN (c % n) n (x % n) (a + 1) = seqN (c % n) n (x % n) (b + 1) := seqN_det (by omega) (Int.emod_nonneg x (by omega)) (Int.emod_lt_of_pos x (by omega))
variable (h : Rnd c n x i s)
include h
/-- Brent: the first place of the fast one that is the slow one's -/
theorem rnd_meet {k size : Nat} (h1 : 1 ≤ size) (e : itI (c % n) n (x % n) k = itI (c % n) n (x % n) (k + size)) (hno : ∀ r, 1 ≤ r → r < size → itI (c % n) n (x % n) k ≠ itI (c % n) n (x % n) (k + r)) : size = s := by
  have := brent_meet (rnd_det hn) h h1 ((rnd_eq hn).2 e) (fun r r1 r2 e => hno r r1 r2 ((rnd_eq hn).1 e))
  omega
theorem rnd_long {k long : Nat} (hk : k + 1 = long) (hno : ∀ r, 1 ≤ r → r ≤ long → itI (c % n) n (x % n) k ≠ itI (c % n) n (x % n) (k + r)) : long ≤ i + s :=
  brent_long (rnd_det hn) h hk (fun r r1 r2 e => hno r r1 r2 ((rnd_eq hn).1 e))
theorem rnd_tail {t : Nat} (e : itI (c % n) n (x % n) t = itI (c % n) n (x % n) (t + s)) (hno : ∀ r, r < t → itI (c % n) n (x % n) r ≠ itI (c % n) n (x % n) (r + s)) : t = i := by
  have := tail_at (rnd_det hn) h (t := t) (by rw [Nat.add_sub_cancel_left]; exact (rnd_eq hn).2 e) (fun r r1 e => hno r r1 (by rw [Nat.add_sub_cancel_left] at e; exact (rnd_eq hn).1 e))
  exact this
theorem rnd_le {t : Nat} (hno : ∀ r, r < t → itI (c % n) n (x % n) r ≠ itI (c % n) n (x % n) (r + s)) : t ≤ i :=
  tail_le (rnd_det hn) h (t := t) (fun r r1 e => hno r r1 (by rw [Nat.add_sub_cancel_left] at e; exact (rnd_eq hn).1 e))
theorem rnd_new {a b : Nat} (h1 : a < b) (h2 : b < i + s) : itI (c % n) n (x % n) a ≠ itI (c % n) n (x % n) b := fun e => h.2.2 a b h1 h2 ((rnd_eq hn).2 e)
theorem rnd_back : itI (c % n) n (x % n) i = itI (c % n) n (x % n) (i + s) := (rnd_eq hn).1 h.2.1
end
end Lw
set_option linter.unusedVariables false
set_option linter.unusedSimpArgs false
namespace Go.Proofs.Ytoignifimgioaaa
open Go.RowKit
set_option maxHeartbeats 1000000 in
theorem cycle_after (c n x : Int) (k : Nat) (w : World) (hn : 0 < n) (hn2 : n ≤ 1048576) (c0 : 0 ≤ c) (c1 : c < n) (x0 : 0 ≤ x) (x1 : x < n) (hk : k ≤ 1048576) :
    Calls Try.prog 45 #[.agg #[.int .i64 c, .int .i64 n], .int .i64 x, .int .i64 (k : Int)] w fun e w' => e = .returned (.int .i64 (Lw.itI c n x k)) ∧ Below w.heap.size w w' := by
  have HI := Lib.hid (fun j => Lw.itI_bd (c := c) (x := x) hn x0 x1 j)
  have NX := Lib.hid (fun (y : Int) (w : World) (y0 : 0 ≤ y) (y1 : y < n) => cycle_next c n y w hn (by omega) c0 c1 y0 y1)
  have S1 : Hid (∀ t, Lw.itI c n x (t + 1) = Lw.nxI c n (Lw.itI c n x t)) := fun _ => rfl
  have X0 : Hid (Lw.itI c n x 0 = x) := rfl
  obtain ⟨W, hW⟩ : ∃ W, w.alloc (.cells #[.int .i64 c, .int .i64 n] 69) = W := ⟨_, rfl⟩
  have B0 := Lib.hid (show W.heap[w.heap.size]? = some (.cells #[.int .i64 c, .int .i64 n] 69 (0, 0)) from hW ▸ Lw.blk_new _ _ _)
  have hBW : Below w.heap.size w W := by rw [← hW]; exact Lw.balloc (Below.refl _ _) _
  have hWs : w.heap.size < W.heap.size := by rw [← hW]; simp
  go_enter Try.func45, Try.ntmps45
  go_wp2
  (try rw [hW])
  clear hW
  go_loopw [1, 8] (fun y i wr => ∃ j : Nat, j ≤ k ∧ y = .int .i64 (Lw.itI c n x j) ∧ i = .int .i64 (j : Int) ∧ Below W.heap.size W wr) (fun _ i _ => k - (intOf i).toNat)
  case atStart => exact ⟨0, by omega, by rw [X0.out], rfl, Below.refl _ _⟩
  case round =>
    obtain ⟨j, j1, rfl, rfl, hB⟩ := hrel
    have B1 := (hB.block w.heap.size hWs).trans B0.out
    have l0 := Lw.blk_cell B1 0; have l1 := Lw.blk_cell B1 1
    simp at l0 l1
    obtain ⟨a0, a1⟩ := HI.out j
    have N1 := fun w => NX.out (Lw.itI c n x j) w a0 a1
    rw [← S1.out] at N1
    replace N1 := Lib.hid N1
    obtain ⟨y, hy⟩ : ∃ y, Lw.itI c n x j = y := ⟨_, rfl⟩
    obtain ⟨y', hy'⟩ : ∃ y, Lw.itI c n x (j + 1) = y := ⟨_, rfl⟩
    rw [hy] at N1
    rw [hy'] at N1
    rw [hy]
    by_cases hlt : j < k
    · go_wp2_with (go_at_call 44; (with_reducible refine (N1.out _).mono ?_); rintro e w5 ⟨rfl, hb5⟩)
      go_roundw
      case rel => exact ⟨j + 1, by omega, by rw [hy'], by go_num, Lw.bt hB hb5⟩
      case measure => simp [intOf]; omega
    · have : j = k := by omega
      subst this
      go_wp2
      go_ret
      exact ⟨by simp [hy], Lw.bt hBW hB⟩
set_option maxHeartbeats 2000000 in
theorem cycle_Cycle_ok (c n x : Int) (w : World) (hc : Lw.farB c = false) (hx : Lw.farB x = false) (h1 : 1 ≤ n) (h2 : n ≤ 1048576) (i s : Nat) (s1 : 1 ≤ s) (s2 : ((i + s : Nat) : Int) ≤ n) (hR : Lw.Rnd c n x i s) :
    Calls Try.prog 13 #[.int .i64 c, .int .i64 n, .int .i64 x] w fun e w' => e = .returned (.tuple #[.int .i64 (i : Int), .int .i64 (s : Int), .int .i64 0]) ∧ Below w.heap.size w w' := by
  have HC := Lib.hid hc; have HX := Lib.hid hx; have HR := Lib.hid hR
  clear hc hx hR
  have hz : ¬ n = 0 := by omega
  obtain ⟨C, hC⟩ : ∃ C, c % n = C := ⟨_, rfl⟩
  obtain ⟨X, hX⟩ : ∃ X, x % n = X := ⟨_, rfl⟩
  have c0 := Int.emod_nonneg c hz; have c1 := Int.emod_lt_of_pos c (by omega : 0 < n)
  have x0 := Int.emod_nonneg x hz; have x1 := Int.emod_lt_of_pos x (by omega : 0 < n)
  have HI := fun j => Lw.itI_bd (c := c % n) (x := x % n) (by omega : 0 < n) x0 x1 j
  have OP := fun w => cycle_open_ok c n x w HC.out HX.out (by omega) h2
  have X0 : Lw.itI (c % n) n (x % n) 0 = x % n := rfl
  have S1 : ∀ t, Lw.itI (c % n) n (x % n) (t + 1) = Lw.nxI (c % n) n (Lw.itI (c % n) n (x % n) t) := fun _ => rfl
  have NX := fun (y : Int) (w : World) (y0 : 0 ≤ y) (y1 : y < n) => cycle_next (c % n) n y w (by omega) (by omega) c0 c1 y0 y1
  have AF := fun (w : World) => cycle_after (c % n) n (x % n) s w (by omega) (by omega) c0 c1 x0 x1 (by omega)
  have M1 := fun (k size : Nat) => Lw.rnd_meet (by omega) HR.out (k := k) (size := size)
  have M2 := fun (k long : Nat) => Lw.rnd_long (by omega) HR.out (k := k) (long := long)
  have M3 := fun (t : Nat) => Lw.rnd_tail (by omega) HR.out (t := t)
  have M4 := fun (t : Nat) => Lw.rnd_le (by omega) HR.out (t := t)
  rw [hC] at HI OP X0 S1 NX AF M1 M2 M3 M4 c0 c1
  rw [hX] at HI OP X0 S1 AF M1 M2 M3 M4 x0 x1
  clear hC hX
  replace HI := Lib.hid HI; replace OP := Lib.hid OP; replace X0 := Lib.hid X0; replace S1 := Lib.hid S1; replace NX := Lib.hid NX; replace AF := Lib.hid AF; replace M1 := Lib.hid M1; replace M2 := Lib.hid M2; replace M3 := Lib.hid M3; replace M4 := Lib.hid M4
  go_enter Try.func13, Try.ntmps13
  have NX0 := fun w => NX.out X w x0 x1
  have i1 := S1.out 0
  rw [X0.out] at i1
  rw [← i1] at NX0
  replace NX0 := Lib.hid NX0
  clear i1
  go_wp2_with (first | (go_at_call 43; (with_reducible refine (OP.out _).mono ?_); rintro e w1 ⟨rfl, hb1⟩) | (go_at_call 44; (with_reducible refine (NX0.out _).mono ?_); rintro e w2 ⟨rfl, hb2⟩))
  have B0 := Lib.hid ((hb2.block w1.heap.size (by simp)).trans (Lw.blk_new w1 #[.int .i64 C, .int .i64 n] 69))
  have hBW : Below w.heap.size w w2 := by (repeat (first | exact Below.refl _ _ | refine Lw.bt ?_ (by assumption) | refine Lw.balloc ?_ _ | refine Lw.bdrewN ?_ _ | refine Below.drew ?_ | refine Lw.bset ?_ (by first | (simp; done) | (simp; omega) | omega) _))
  have hWs : w1.heap.size < w2.heap.size := by have := hb2.size; simp at this; omega
  clear hb1 hb2
  go_loopw [11, 12, 13, 14] (fun l z a b wr => ∃ k long size : Nat, k + 1 = long ∧ 1 ≤ size ∧ size ≤ long ∧ long ≤ 2097152 ∧ l = .int .i64 (long : Int) ∧ z = .int .i64 (size : Int) ∧ a = .int .i64 (Lw.itI C n X k) ∧ b = .int .i64 (Lw.itI C n X (k + size)) ∧ Hid (∀ r, 1 ≤ r → r < size → Lw.itI C n X k ≠ Lw.itI C n X (k + r)) ∧ Below w2.heap.size w2 wr) (fun l z _ _ _ => 4194310 - (intOf l).toNat - (intOf z).toNat)
  case atStart => exact ⟨0, 1, 1, rfl, by omega, by omega, by omega, rfl, rfl, by rw [X0.out], rfl, (by intro r r1 r2; omega), Below.refl _ _⟩
  case round =>
    obtain ⟨k, long, size, k1, z1, z2, z3, rfl, rfl, rfl, rfl, HN, hB⟩ := hrel
    have B1 := (hB.block w1.heap.size hWs).trans B0.out
    have l0 := Lw.blk_cell B1 0; have l1 := Lw.blk_cell B1 1
    simp at l0 l1
    have hzr := hB.size
    have hlt : w1.heap.size < wr.heap.size := by omega
    obtain ⟨b0, b1⟩ := HI.out (k + size)
    have N1 := fun w => NX.out _ w b0 b1
    rw [← S1.out] at N1
    replace N1 := Lib.hid N1
    by_cases he : Lw.itI C n X k = Lw.itI C n X (k + size)
    · have hsz : size = s := M1.out _ _ z1 he HN.out
      subst hsz
      have ht : (Lw.itI C n X k == Lw.itI C n X (k + size)) = true := by simpa using he
      clear he N1 b0 b1
      go_wp2_with (go_at_call 45; (with_reducible refine (AF.out _).mono ?_); rintro e w5 ⟨rfl, hb5⟩)
      have B2 := Lib.hid ((hb5.block w1.heap.size (by omega)).trans B1)
      have hB5 := Lw.bt hB hb5
      have h5 : w1.heap.size < w5.heap.size := by have := hb5.size; omega
      clear l0 l1 hzr hlt B1 HN
      go_loopw [15, 16, 17] (fun u a b wt => ∃ t : Nat, t ≤ i ∧ u = .int .i64 (t : Int) ∧ a = .int .i64 (Lw.itI C n X t) ∧ b = .int .i64 (Lw.itI C n X (t + size)) ∧ Hid (∀ r, r < t → Lw.itI C n X r ≠ Lw.itI C n X (r + size)) ∧ Below w5.heap.size w5 wt) (fun u _ _ _ => i - (intOf u).toNat)
      case atStart => exact ⟨0, by omega, rfl, by rw [X0.out], by rw [Nat.zero_add], (by intro r r1; omega), Below.refl _ _⟩
      case round =>
        obtain ⟨t, t1, rfl, rfl, rfl, HN, hB⟩ := hrel
        have B1 := (hB.block w1.heap.size h5).trans B2.out
        have l0 := Lw.blk_cell B1 0; have l1 := Lw.blk_cell B1 1
        simp at l0 l1
        have hzr := hB.size
        have hlt : w1.heap.size < wr.heap.size := by omega
        obtain ⟨a0, a1⟩ := HI.out t
        obtain ⟨b0, b1⟩ := HI.out (t + size)
        have N1 := fun w => NX.out _ w a0 a1
        have N2 := fun w => NX.out _ w b0 b1
        rw [← S1.out] at N1 N2
        replace N1 := Lib.hid N1
        replace N2 := Lib.hid N2
        by_cases he : Lw.itI C n X t = Lw.itI C n X (t + size)
        · have hti : t = i := M3.out _ he HN.out
          subst hti
          have ht : (Lw.itI C n X t == Lw.itI C n X (t + size)) = true := by simpa using he
          clear he N1 N2 a0 a1 b0 b1
          go_wp2
          go_ret3
          exact ⟨rfl, Lw.bt (Lw.bt hBW hB5) hB⟩
        · have HN' : Hid (∀ r, r < t + 1 → Lw.itI C n X r ≠ Lw.itI C n X (r + size)) := by
            intro r hr
            rcases Nat.lt_or_ge r t with h | h
            · exact HN.out r h
            · obtain rfl : r = t := by omega
              exact he
          have hti : t + 1 ≤ i := M4.out _ HN'.out
          have ht : (Lw.itI C n X t == Lw.itI C n X (t + size)) = false := by simpa using he
          clear he a0 a1 b0 b1 HN
          go_wp2_with fail
          refine wp_region_held_drew (S := Lw.Sm wr) (by kernel_rfl) (Lw.sm_drew wr) (fun hHeld => ?_)
          (refine Lw.take1 (i := 0) (v := ?_) rfl (by kernel_rfl) (by kernel_rfl) (by kernel_rfl) (fun _ _ _ h => h) (Or.inl ⟨by rfl, ?_⟩) (by assumption) ?_; rotate_left 1; (focus (intro wS hSw; obtain ⟨hS1, hS2, hS3, hS4⟩ := hSw; go_simp <;> with_reducible rfl)); (try simp only [Act.put, List.setIfInBounds_toArray, List.set_cons_zero, List.set_cons_succ]))
          (refine Lw.take1 (i := 1) (v := ?_) rfl (by kernel_rfl) (by kernel_rfl) (by kernel_rfl) (fun _ _ _ h => h) (Or.inl ⟨by rfl, ?_⟩) (by assumption) ?_; rotate_left 1; (focus (intro wS hSw; obtain ⟨hS1, hS2, hS3, hS4⟩ := hSw; go_simp <;> with_reducible rfl)); (try simp only [Act.put, List.setIfInBounds_toArray, List.set_cons_zero, List.set_cons_succ]))
          (refine Lw.take1 (i := 3) (v := ?_) rfl (by kernel_rfl) (by kernel_rfl) (by kernel_rfl) (fun _ _ _ h => h) (Or.inl ⟨by rfl, ?_⟩) (by assumption) ?_; rotate_left 1; (focus (intro wS hSw; obtain ⟨hS1, hS2, hS3, hS4⟩ := hSw; go_simp <;> with_reducible rfl)); (try simp only [Act.put, List.setIfInBounds_toArray, List.set_cons_zero, List.set_cons_succ]))
          (refine Lw.take1 (i := 4) (v := ?_) rfl (by kernel_rfl) (by kernel_rfl) (by kernel_rfl) (fun _ _ _ h => h) (Or.inl ⟨by rfl, ?_⟩) (by assumption) ?_; rotate_left 1; (focus (intro wS hSw; obtain ⟨hS1, hS2, hS3, hS4⟩ := hSw; go_simp <;> with_reducible rfl)); (try simp only [Act.put, List.setIfInBounds_toArray, List.set_cons_zero, List.set_cons_succ]))
          (refine wpAnyH_ready (rs := [2]) (by kernel_rfl) (by simp) ?_; refine Lw.cons1 (i := 2) rfl (fun K hK => ?_) AllReadyH.nil; go_simp; go_at_call 44; (with_reducible refine (N1.out _).mono ?_); rintro e wx ⟨rfl, hbx⟩; refine hK.out _ _ ?_ (fun hHeld => ?_); (focus exact Lw.sm_keep (Lw.sm_drew wr) hbx); clear hK K; (try simp only [Act.put, List.setIfInBounds_toArray, List.set_cons_zero, List.set_cons_succ]))
          (refine wpAnyH_ready (rs := [5]) (by kernel_rfl) (by simp) ?_; refine Lw.cons1 (i := 5) rfl (fun K hK => ?_) AllReadyH.nil; go_simp; go_at_call 44; (with_reducible refine (N2.out _).mono ?_); rintro e wy ⟨rfl, hby⟩; refine hK.out _ _ ?_ (fun hHeld => ?_); (focus exact Lw.sm_keep (Lw.sm_keep (Lw.sm_drew wr) hbx) hby); clear hK K; (try simp only [Act.put, List.setIfInBounds_toArray, List.set_cons_zero, List.set_cons_succ]))
          (refine Lw.take1 (i := 6) (v := ?_) rfl (by kernel_rfl) (by kernel_rfl) (by kernel_rfl) (fun _ _ _ h => h) (Or.inl ⟨by rfl, ?_⟩) (by assumption) ?_; rotate_left 1; (focus (intro wS hSw; obtain ⟨hS1, hS2, hS3, hS4⟩ := hSw; go_simp <;> with_reducible rfl)); (try simp only [Act.put, List.setIfInBounds_toArray, List.set_cons_zero, List.set_cons_succ]))
          (refine Lw.take1 (i := 7) (v := ?_) rfl (by kernel_rfl) (by kernel_rfl) (by kernel_rfl) (fun _ _ _ h => h) (Or.inl ⟨by rfl, ?_⟩) (by assumption) ?_; rotate_left 1; (focus (intro wS hSw; obtain ⟨hS1, hS2, hS3, hS4⟩ := hSw; go_simp <;> with_reducible rfl)); (try simp only [Act.put, List.setIfInBounds_toArray, List.set_cons_zero, List.set_cons_succ]))
          refine wpAnyH_done (by kernel_rfl) ?_ _
          have hS := Lw.sm_keep (Lw.sm_keep (Lw.sm_drew wr) hbx) hby
          go_wp2
          go_roundw
          case rel => exact ⟨t + 1, hti, by go_num, rfl, by rw [show t + 1 + size = t + size + 1 by omega], HN', Lw.bt hB hS.2.2.2⟩
          case measure => simp [intOf]; omega
    · have HN' : Hid (∀ r, 1 ≤ r → r < size + 1 → Lw.itI C n X k ≠ Lw.itI C n X (k + r)) := by
        intro r r1 hr
        rcases Nat.lt_or_ge r size with h | h
        · exact HN.out r r1 h
        · obtain rfl : r = size := by omega
          exact he
      have ht : (Lw.itI C n X k == Lw.itI C n X (k + size)) = false := by simpa using he
      clear he HN
      by_cases hl : size = long
      · have hlong : long ≤ i + s := M2.out _ _ k1 (fun r r1 r2 => HN'.out r r1 (by omega))
        subst hl
        go_wp2_with (go_at_call 44; (with_reducible refine (N1.out _).mono ?_); rintro e w5 ⟨rfl, hb5⟩)
        go_roundw
        case rel => exact ⟨k + size, 2 * size, 1, by omega, by omega, by omega, by omega, by go_num, by go_num, rfl, rfl, (by intro r r1 r2; omega), Lw.bt hB hb5⟩
        case measure => simp [intOf]; omega
      · have hl1 : ¬ (size : Int) = (long : Int) := by omega
        go_wp2_with (go_at_call 44; (with_reducible refine (N1.out _).mono ?_); rintro e w5 ⟨rfl, hb5⟩)
        go_roundw
        case rel => exact ⟨k, long, size + 1, k1, by omega, by omega, by omega, rfl, by go_num, rfl, rfl, HN', Lw.bt hB hb5⟩
        case measure => simp [intOf]; omega
theorem cycle_Cycle_bad (c n x : Int) (w : World) (h : Lw.firstI (Lw.bothI c x) (Lw.modI n) ≠ 0) :
    Calls Try.prog 13 #[.int .i64 c, .int .i64 n, .int .i64 x] w fun e w' => e = .returned (.tuple #[.int .i64 0, .int .i64 0, .int .i64 2]) ∧ Below w.heap.size w w' := by
  have OP := Lib.hid (fun w => cycle_open_bad c n x w h)
  clear h
  go_enter Try.func13, Try.ntmps13
  go_wp2_with (go_at_call 43; (with_reducible refine (OP.out _).mono ?_); rintro e w1 ⟨rfl, hb1⟩)
  go_ret3
  exact ⟨rfl, by (repeat (first | exact Below.refl _ _ | refine Lw.bt ?_ (by assumption) | refine Lw.balloc ?_ _ | refine Lw.bdrewN ?_ _ | refine Below.drew ?_ | refine Lw.bset ?_ (by first | (simp; done) | (simp; omega) | omega) _))⟩
end Go.Proofs.Ytoignifimgioaaa

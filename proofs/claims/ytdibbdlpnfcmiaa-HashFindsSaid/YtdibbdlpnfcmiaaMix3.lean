/- hash.Clash. -/
import Derived.Test.YtdibbdlpnfcmiaaMix2
import Derived.Test.YtdibbdlpnfcmiaaBeq
import Derived.Test.YtdibbdlpnfcmiaaRegS
namespace Lw
open Go Go.RowKit
theorem far4 {w : World} {b : Nat} {x y : Value} {a0 a1 a2 a3 : Addr} {v0 v1 v2 v3 : Value} (h : w.cell? a0 = some v0 ∧ w.cell? a1 = some v1 ∧ w.cell? a2 = some v2 ∧ w.cell? a3 = some v3) (h0 : b ≠ a0.block) (h1 : b ≠ a1.block) (h2 : b ≠ a2.block) (h3 : b ≠ a3.block) :
    ((w.setCell ⟨b, 0, none⟩ x).setCell ⟨b, 1, none⟩ y).cell? a0 = some v0 ∧ ((w.setCell ⟨b, 0, none⟩ x).setCell ⟨b, 1, none⟩ y).cell? a1 = some v1 ∧ ((w.setCell ⟨b, 0, none⟩ x).setCell ⟨b, 1, none⟩ y).cell? a2 = some v2 ∧ ((w.setCell ⟨b, 0, none⟩ x).setCell ⟨b, 1, none⟩ y).cell? a3 = some v3 := by
  obtain ⟨c0, c1, c2, c3⟩ := h
  refine ⟨?_, ?_, ?_, ?_⟩
  · rw [World.cell?_setCell_far _ _ _ _ h0, World.cell?_setCell_far _ _ _ _ h0]; exact c0
  · rw [World.cell?_setCell_far _ _ _ _ h1, World.cell?_setCell_far _ _ _ _ h1]; exact c1
  · rw [World.cell?_setCell_far _ _ _ _ h2, World.cell?_setCell_far _ _ _ _ h2]; exact c2
  · rw [World.cell?_setCell_far _ _ _ _ h3, World.cell?_setCell_far _ _ _ _ h3]; exact c3
end Lw
set_option linter.unusedVariables false
set_option linter.unusedSimpArgs false
namespace Go.Proofs.Ytdibbdlpnfcmiaa
open Go.RowKit
set_option maxHeartbeats 10000000 in
theorem hash_Clash (A B : Option Addr) (n m c d t : Nat) (xs bs : List Int) (w : World) (R1 : Lw.Rd w 1 A n (Lw.intsV .u8 xs)) (R2 : Lw.Rd w 1 B m (Lw.intsV .u8 bs)) (hy1 : Lw.Byt xs) (hy2 : Lw.Byt bs) (hn : n ≤ 4096) (hm : m ≤ 4096) (hs : Lw.hsum xs = Lw.hsum bs) (hne : xs ≠ bs) (F : Lw.FirstDiff xs bs t) :
    Calls Try.prog 23 #[.slice A n c, .slice B m d] w fun e w' => e = .returned (.tuple #[.agg #[.int .u32 (Lw.mxB xs t).1, .int .u8 (Lw.mxB xs t).2], .agg #[.int .u32 (Lw.mxB bs t).1, .int .u8 (Lw.mxB bs t).2], .int .i64 0]) ∧ Below w.heap.size w w' := by
  have l1 : xs.length = n := by have := R1.1; simpa [Lw.intsV] using this
  have l2 : bs.length = m := by have := R2.1; simpa [Lw.intsV] using this
  obtain ⟨f1, f2, f3, f4⟩ := F
  have g1 := fun (k : Nat) (h : k < n + 4) => (Lw.mxB_get (bs := xs) (t := k) (by omega))
  have g2 := fun (k : Nat) (h : k < m + 4) => (Lw.mxB_get (bs := bs) (t := k) (by omega))
  have e1 : (Lw.mxs (Lw.padL xs)).length = n + 4 := by rw [Lw.mxs_length, Lw.padL_length, l1]
  have e2 : (Lw.mxs (Lw.padL bs)).length = m + 4 := by rw [Lw.mxs_length, Lw.padL_length, l2]
  rw [l1] at f1
  rw [l2] at f2
  have R1 := Lib.hid R1
  have R2 := Lib.hid R2
  have H1 := Lib.hid (fun w R => hash_Of A n c xs w R hy1 (by omega))
  have H2 := Lib.hid (fun w R => hs ▸ hash_Of B m d bs w R hy2 (by omega))
  have M1 := Lib.hid (fun w R => hash_mixes A n c xs w R hy1 (by omega))
  have M2 := Lib.hid (fun w R => hash_mixes B m d bs w R hy2 (by omega))
  have Q := Lib.hid (fun w R1 R2 => bytes_Equal A B n m c d xs bs w R1 R2 hy1 hy2)
  have hq : Hid (decide (xs = bs) = false) := Lib.hid (by simpa using hne)
  rw [hq.out] at Q
  clear hq
  have G1 : Hid (∀ k : Nat, k < n + 4 → ∃ h : n + 3 - k < (Lw.mxs (Lw.padL xs)).length, (Lw.mxs (Lw.padL xs))[n + 3 - k] = Lw.mxB xs k) := Lib.hid fun k h => ⟨by omega, by rw [← g1 k h]; simp only [l1]⟩
  have G2 : Hid (∀ k : Nat, k < m + 4 → ∃ h : m + 3 - k < (Lw.mxs (Lw.padL bs)).length, (Lw.mxs (Lw.padL bs))[m + 3 - k] = Lw.mxB bs k) := Lib.hid fun k h => ⟨by omega, by rw [← g2 k h]; simp only [l2]⟩
  have hn1 : ¬ (4096 : Int) < (n : Int) := by omega
  have hm1 : ¬ (4096 : Int) < (m : Int) := by omega
  have hmax : ¬ (4096 : Int) < max (n : Int) (m : Int) := by omega
  obtain ⟨N, hN⟩ : ∃ N : Nat, n + 4 = N := ⟨_, rfl⟩
  obtain ⟨M, hM⟩ : ∃ M : Nat, m + 4 = M := ⟨_, rfl⟩
  rw [hN] at M1 f1
  rw [hM] at M2 f2
  obtain ⟨⟨q1, q2⟩, hq⟩ : ∃ q, Lw.mxB xs t = q := ⟨_, rfl⟩
  obtain ⟨⟨r1, r2⟩, hr⟩ : ∃ q, Lw.mxB bs t = q := ⟨_, rfl⟩
  rw [hq, hr] at f3
  rw [hq, hr]
  have HQ := Lib.hid hq
  have HR := Lib.hid hr
  clear hq hr
  have f3 := Lib.hid f3
  have f4 := Lib.hid f4
  have EN := Lib.hid (show (N : Int) - 1 = ((n + 3 : Nat) : Int) by omega)
  have EM := Lib.hid (show (M : Int) - 1 = ((m + 3 : Nat) : Int) by omega)
  clear l1 l2 g1 g2 e1 e2 hs hne hy1 hy2
  generalize Lw.mxs (Lw.padL xs) = us at *
  generalize Lw.mxs (Lw.padL bs) = vs at *
  obtain ⟨W, hW⟩ : ∃ W, (w.alloc (.cells #[.int .u32 0, .int .u8 0] 53)).alloc (.cells #[.int .u32 0, .int .u8 0] 53) = W := ⟨_, rfl⟩
  have B0 := Lib.hid (show W.heap[w.heap.size]? = some (.cells #[.int .u32 0, .int .u8 0] 53 (0, 0)) from hW ▸ Lw.blk_alloc (Lw.blk_new _ _ _) _)
  have B1 := Lib.hid (show W.heap[w.heap.size + 1]? = some (.cells #[.int .u32 0, .int .u8 0] 53 (0, 0)) from hW ▸ Lw.blk_new' (by simp) _ _)
  have hBW : Below w.heap.size w W := by rw [← hW]; (repeat (first | exact Below.refl _ _ | refine Lw.bt ?_ (by assumption) | refine Lw.balloc ?_ _ | refine Lw.bdrewN ?_ _ | refine Below.drew ?_ | refine Lw.bset ?_ (by first | (simp; done) | (simp; omega) | omega) _))
  have s0 : W.heap.size = w.heap.size + 2 := by rw [← hW]; simp
  have HW := Lib.hid hW
  clear hW
  go_enter Try.func23, Try.ntmps23
  rcases Nat.lt_or_ge n m with hmx | hmx
  all_goals
    go_wp2_with fail
    rw [HW.out]
    have RW1 := R1.out.below (Nat.le_refl _) hBW
    have RW2 := R2.out.below (Nat.le_refl _) hBW
    clear R1 R2 hn1 hm1 hmax
    refine (Q.out _ RW1 RW2).mono ?_
    rintro e wq ⟨rfl, rfl⟩
    go_wp2_with fail
    refine (H1.out _ RW1).mono ?_
    rintro e w1 ⟨rfl, hb1⟩
    go_wp2_with fail
    refine (H2.out _ (RW2.below (Nat.le_refl _) hb1)).mono ?_
    rintro e w2 ⟨rfl, hb2⟩
    have hb12 := Lw.bt hb1 hb2
    go_wp2_with fail
    refine (M1.out _ (RW1.below (Nat.le_refl _) hb12)).mono ?_
    rintro e w3 ⟨A1, c1, rfl, own1, hb3⟩
    have hb13 := Lw.bt hb12 hb3
    go_wp2_with fail
    refine (M2.out _ (RW2.below (Nat.le_refl _) hb13)).mono ?_
    rintro e w4 ⟨A2, c2, rfl, own2, hb4⟩
    have hb14 := Lw.bt hb13 hb4
    obtain ⟨_, _, ev, _, _, ho1⟩ := Lw.ownsForm own1
    injection ev with ev1 ev2 ev3
    subst ev1 ev3
    obtain ⟨_, _, ev, _, _, ho2⟩ := Lw.ownsForm own2
    injection ev with ev1 ev2 ev3
    subst ev1 ev3
    have z1 := hb12.size
    have z2 := hb13.size
    have z3 := hb4.size
    have RD1 := Lib.hid ((Lw.Rd.of_own own1).below (Nat.le_refl _) hb4)
    have RD2 := Lib.hid (Lw.Rd.of_own own2)
    have D1 : Hid (∀ ad, A1 = some ad → ad.block ≠ w.heap.size ∧ ad.block ≠ w.heap.size + 1) := Lib.hid (by intro ad ha; rcases ho1 with rfl | ⟨g, rfl, h1, h2⟩ <;> simp at ha; subst ha; simp; omega)
    have D2 : Hid (∀ ad, A2 = some ad → ad.block ≠ w.heap.size ∧ ad.block ≠ w.heap.size + 1) := Lib.hid (by intro ad ha; rcases ho2 with rfl | ⟨g, rfl, h1, h2⟩ <;> simp at ha; subst ha; simp; omega)
    have C0 := Lib.hid ((hb14.block w.heap.size (by omega)).trans B0.out)
    have C1 := Lib.hid ((hb14.block (w.heap.size + 1) (by omega)).trans B1.out)
    have hBW4 := Lw.bt hBW hb14
    have z4 : w.heap.size + 2 ≤ w4.heap.size := by omega
    clear own1 own2 ho1 ho2 RW1 RW2 H1 H2 M1 M2 Q z1 z2 z3 s0 B0 B1 HW hb1 hb2 hb3 hb4 hb12 hb13 hb14 hBW
    have en := EN.out
    have em := EM.out
    go_wp2_with fail
    go_loopw [9, 10] (fun i j wr => ∃ k k1 k2 : Nat, i = .int .i64 (k1 : Int) ∧ j = .int .i64 (k2 : Int) ∧ k1 + k = n + 3 ∧ k2 + k = m + 3 ∧ k ≤ t ∧ wr.heap = w4.heap ∧ Below w4.heap.size w4 wr) (fun i _ _ => (intOf i).toNat)
    case atStart => exact ⟨0, n + 3, m + 3, by go_num, by go_num, rfl, rfl, by omega, rfl, Below.refl _ _⟩
    case round =>
      obtain ⟨k, k1, k2, rfl, rfl, e1, e2, kt, hH, hB⟩ := hrel
      have hsz := hB.size
      have i1 : (k1 : Int) < (N : Int) := by omega
      have i2 : (k2 : Int) < (M : Int) := by omega
      obtain ⟨x1, x2⟩ := G1.out k (by omega)
      obtain ⟨y1, y2⟩ := G2.out k (by omega)
      have ek1 : n + 3 - k = k1 := by omega
      have ek2 : m + 3 - k = k2 := by omega
      have p1 := Lw.pairsV_get (k := .u32) (l := .u8) x1
      have p2 := Lw.pairsV_get (k := .u32) (l := .u8) y1
      rw [x2, ek1] at p1
      rw [y2, ek2] at p2
      obtain ⟨ad, rfl, had, c0, c1⟩ := (RD1.out.below (Nat.le_refl _) hB).at2 (show k1 < N by omega) p1.1 p1.2
      obtain ⟨ae, rfl, hae, d0, d1⟩ := (RD2.out.below (Nat.le_refl _) hB).at2 (show k2 < M by omega) p2.1 p2.2
      clear p1 p2 x1 x2 y1 y2 ek1 ek2
      by_cases hlt : k < t
      · have e := f4.out k hlt
        rw [← e] at d0 d1
        clear e
        obtain ⟨⟨u1, u2⟩, hu⟩ : ∃ q, Lw.mxB xs k = q := ⟨_, rfl⟩
        rw [hu] at c0 c1 d0 d1
        simp only at c0 c1 d0 d1
        clear hu
        go_wp2_with fail
        refine wp_region_held_drew (S := fun w' => w'.cell? (ad.add (k1 * 2)) = some (.int .u32 u1) ∧ w'.cell? ⟨(ad.add (k1 * 2)).block, (ad.add (k1 * 2)).off + 1, none⟩ = some (.int .u8 u2) ∧ w'.cell? (ae.add (k2 * 2)) = some (.int .u32 u1) ∧ w'.cell? ⟨(ae.add (k2 * 2)).block, (ae.add (k2 * 2)).off + 1, none⟩ = some (.int .u8 u2)) (by kernel_rfl) ⟨c0, c1, d0, d1⟩ (fun hHeld => ?_)
        (refine Lw.take1 (i := 0) (v := ?_) rfl (by kernel_rfl) (by kernel_rfl) (by kernel_rfl) (fun _ _ _ h => h) (Or.inl ⟨by rfl, ?_⟩) (by assumption) ?_; rotate_left 1; (focus (intro wS hSw; obtain ⟨hS1, hS2, hS3, hS4⟩ := hSw; go_simp <;> with_reducible rfl)); (try simp only [Act.put, List.setIfInBounds_toArray, List.set_cons_zero, List.set_cons_succ]))
        (refine Lw.take1 (i := 1) (v := ?_) rfl (by kernel_rfl) (by kernel_rfl) (by kernel_rfl) (fun _ _ _ h => h) (Or.inl ⟨by rfl, ?_⟩) (by assumption) ?_; rotate_left 1; (focus (intro wS hSw; obtain ⟨hS1, hS2, hS3, hS4⟩ := hSw; go_simp <;> with_reducible rfl)); (try simp only [Act.put, List.setIfInBounds_toArray, List.set_cons_zero, List.set_cons_succ]))
        (refine Lw.take1 (i := 2) (v := ?_) rfl (by kernel_rfl) (by kernel_rfl) (by kernel_rfl) (fun _ _ _ h => h) (Or.inl ⟨by rfl, ?_⟩) (by assumption) ?_; rotate_left 1; (focus (intro wS hSw; obtain ⟨hS1, hS2, hS3, hS4⟩ := hSw; go_simp <;> with_reducible rfl)); (try simp only [Act.put, List.setIfInBounds_toArray, List.set_cons_zero, List.set_cons_succ]))
        (refine Lw.take1 (i := 3) (v := ?_) rfl (by kernel_rfl) (by kernel_rfl) (by kernel_rfl) (fun _ _ _ h => h) (Or.inl ⟨by rfl, ?_⟩) (by assumption) ?_; rotate_left 1; (focus (intro wS hSw; obtain ⟨hS1, hS2, hS3, hS4⟩ := hSw; go_simp <;> with_reducible rfl)); (try simp only [Act.put, List.setIfInBounds_toArray, List.set_cons_zero, List.set_cons_succ]))
        (refine Lw.take1 (i := 4) (v := ?_) rfl (by kernel_rfl) (by kernel_rfl) (by kernel_rfl) (fun _ _ _ h => h) (Or.inl ⟨by rfl, ?_⟩) (by assumption) ?_; rotate_left 1; (focus (intro wS hSw; obtain ⟨hS1, hS2, hS3, hS4⟩ := hSw; go_simp <;> with_reducible rfl)); (try simp only [Act.put, List.setIfInBounds_toArray, List.set_cons_zero, List.set_cons_succ]))
        (refine Lw.take1 (i := 5) (v := ?_) rfl (by kernel_rfl) (by kernel_rfl) (by kernel_rfl) (fun _ _ _ h => h) (Or.inl ⟨by rfl, ?_⟩) (by assumption) ?_; rotate_left 1; (focus (intro wS hSw; obtain ⟨hS1, hS2, hS3, hS4⟩ := hSw; go_simp <;> with_reducible rfl)); (try simp only [Act.put, List.setIfInBounds_toArray, List.set_cons_zero, List.set_cons_succ]))
        (refine Lw.take1 (i := 6) (v := ?_) rfl (by kernel_rfl) (by kernel_rfl) (by kernel_rfl) (fun _ _ _ h => h) (Or.inl ⟨by rfl, ?_⟩) (by assumption) ?_; rotate_left 1; (focus (intro wS hSw; obtain ⟨hS1, hS2, hS3, hS4⟩ := hSw; go_simp <;> with_reducible rfl)); (try simp only [Act.put, List.setIfInBounds_toArray, List.set_cons_zero, List.set_cons_succ]))
        (refine Lw.take1 (i := 7) (v := ?_) rfl (by kernel_rfl) (by kernel_rfl) (by kernel_rfl) (fun _ _ _ h => h) (Or.inl ⟨by rfl, ?_⟩) (by assumption) ?_; rotate_left 1; (focus (intro wS hSw; obtain ⟨hS1, hS2, hS3, hS4⟩ := hSw; go_simp <;> with_reducible rfl)); (try simp only [Act.put, List.setIfInBounds_toArray, List.set_cons_zero, List.set_cons_succ]))
        (refine Lw.take1 (i := 8) (v := ?_) rfl (by kernel_rfl) (by kernel_rfl) (by kernel_rfl) (fun _ _ _ h => h) (Or.inl ⟨by rfl, ?_⟩) (by assumption) ?_; rotate_left 1; (focus (intro wS hSw; obtain ⟨hS1, hS2, hS3, hS4⟩ := hSw; go_simp <;> with_reducible rfl)); (try simp only [Act.put, List.setIfInBounds_toArray, List.set_cons_zero, List.set_cons_succ]))
        refine wpAnyH_done (by kernel_rfl) ?_ _
        go_wp2_with fail
        go_roundw
        case rel => exact ⟨k + 1, k1 - 1, k2 - 1, by go_num, by go_num, by omega, by omega, by omega, by exact hH, by exact Below.drew hB⟩
        case measure => simp [intOf]; omega
      · have hk : k = t := by omega
        subst hk
        have f3 := f3.out
        rw [HQ.out] at c0 c1
        rw [HR.out] at d0 d1
        simp only at c0 c1 d0 d1
        have hne : ¬ q1 = r1 ∨ (q1 = r1 ∧ ¬ q2 = r2) := by
          by_cases h : q1 = r1
          · exact .inr ⟨h, fun e => f3 (by rw [h, e])⟩
          · exact .inl h
        clear f3 f4 HQ HR
        have dd1 := D1.out _ rfl
        have dd2 := D2.out _ rfl
        have B04 : Hid (wr.heap[w.heap.size]? = _) := Lib.hid ((congrArg (·[w.heap.size]?) hH).trans C0.out)
        have B14 : Hid (wr.heap[w.heap.size + 1]? = _) := Lib.hid ((congrArg (·[w.heap.size + 1]?) hH).trans C1.out)
        have l0 := Lw.blk_cell B04.out 0; have l1 := Lw.blk_cell B04.out 1; have fr0 := fun i => Lw.blk_free B04.out i
        have m0 := Lw.blk_cell B14.out 0; have m1 := Lw.blk_cell B14.out 1; have fr1 := fun i => Lw.blk_free B14.out i
        simp at l0 l1 m0 m1
        have e00 : w.heap.size ≠ (ad.add (k1 * 2)).block := by rw [Lw.add_block]; exact fun e => dd1.1 e.symm
        have e01 : w.heap.size ≠ (ae.add (k2 * 2)).block := by rw [Lw.add_block]; exact fun e => dd2.1 e.symm
        have e10 : w.heap.size + 1 ≠ (ad.add (k1 * 2)).block := by rw [Lw.add_block]; exact fun e => dd1.2 e.symm
        have e11 : w.heap.size + 1 ≠ (ae.add (k2 * 2)).block := by rw [Lw.add_block]; exact fun e => dd2.2 e.symm
        rcases hne with h | ⟨rfl, h⟩
        · skip
          have hb1 : (q1 == r1) = false := by simpa using h
          clear h
          go_wp2_with fail
          refine wp_region_held_drew (S := fun w' => w'.cell? (ad.add (k1 * 2)) = some (.int .u32 q1) ∧ w'.cell? ⟨(ad.add (k1 * 2)).block, (ad.add (k1 * 2)).off + 1, none⟩ = some (.int .u8 q2) ∧ w'.cell? (ae.add (k2 * 2)) = some (.int .u32 r1) ∧ w'.cell? ⟨(ae.add (k2 * 2)).block, (ae.add (k2 * 2)).off + 1, none⟩ = some (.int .u8 r2)) (by kernel_rfl) ⟨c0, c1, d0, d1⟩ (fun hHeld => ?_)
          (refine Lw.take1 (i := 0) (v := ?_) rfl (by kernel_rfl) (by kernel_rfl) (by kernel_rfl) (fun _ _ _ h => h) (Or.inl ⟨by rfl, ?_⟩) (by assumption) ?_; rotate_left 1; (focus (intro wS hSw; obtain ⟨hS1, hS2, hS3, hS4⟩ := hSw; go_simp <;> with_reducible rfl)); (try simp only [Act.put, List.setIfInBounds_toArray, List.set_cons_zero, List.set_cons_succ]))
          (refine Lw.take1 (i := 1) (v := ?_) rfl (by kernel_rfl) (by kernel_rfl) (by kernel_rfl) (fun _ _ _ h => h) (Or.inl ⟨by rfl, ?_⟩) (by assumption) ?_; rotate_left 1; (focus (intro wS hSw; obtain ⟨hS1, hS2, hS3, hS4⟩ := hSw; go_simp <;> with_reducible rfl)); (try simp only [Act.put, List.setIfInBounds_toArray, List.set_cons_zero, List.set_cons_succ]))
          (refine Lw.take1 (i := 2) (v := ?_) rfl (by kernel_rfl) (by kernel_rfl) (by kernel_rfl) (fun _ _ _ h => h) (Or.inl ⟨by rfl, ?_⟩) (by assumption) ?_; rotate_left 1; (focus (intro wS hSw; obtain ⟨hS1, hS2, hS3, hS4⟩ := hSw; go_simp <;> with_reducible rfl)); (try simp only [Act.put, List.setIfInBounds_toArray, List.set_cons_zero, List.set_cons_succ]))
          (refine Lw.take1 (i := 3) (v := ?_) rfl (by kernel_rfl) (by kernel_rfl) (by kernel_rfl) (fun _ _ _ h => h) (Or.inl ⟨by rfl, ?_⟩) (by assumption) ?_; rotate_left 1; (focus (intro wS hSw; obtain ⟨hS1, hS2, hS3, hS4⟩ := hSw; go_simp <;> with_reducible rfl)); (try simp only [Act.put, List.setIfInBounds_toArray, List.set_cons_zero, List.set_cons_succ]))
          (refine Lw.take1 (i := 4) (v := ?_) rfl (by kernel_rfl) (by kernel_rfl) (by kernel_rfl) (fun _ _ _ h => h) (Or.inl ⟨by rfl, ?_⟩) (by assumption) ?_; rotate_left 1; (focus (intro wS hSw; obtain ⟨hS1, hS2, hS3, hS4⟩ := hSw; go_simp <;> with_reducible rfl)); (try simp only [Act.put, List.setIfInBounds_toArray, List.set_cons_zero, List.set_cons_succ]))
          (refine Lw.take1 (i := 5) (v := ?_) rfl (by kernel_rfl) (by kernel_rfl) (by kernel_rfl) (fun _ _ _ h => h) (Or.inl ⟨by rfl, ?_⟩) (by assumption) ?_; rotate_left 1; (focus (intro wS hSw; obtain ⟨hS1, hS2, hS3, hS4⟩ := hSw; go_simp <;> with_reducible rfl)); (try simp only [Act.put, List.setIfInBounds_toArray, List.set_cons_zero, List.set_cons_succ]))
          (refine Lw.take1 (i := 6) (v := ?_) rfl (by kernel_rfl) (by kernel_rfl) (by kernel_rfl) (fun _ _ _ h => h) (Or.inl ⟨by rfl, ?_⟩) (by assumption) ?_; rotate_left 1; (focus (intro wS hSw; obtain ⟨hS1, hS2, hS3, hS4⟩ := hSw; go_simp <;> with_reducible rfl)); (try simp only [Act.put, List.setIfInBounds_toArray, List.set_cons_zero, List.set_cons_succ]))
          (refine Lw.take1 (i := 7) (v := ?_) rfl (by kernel_rfl) (by kernel_rfl) (by kernel_rfl) (fun _ _ _ h => h) (Or.inl ⟨by rfl, ?_⟩) (by assumption) ?_; rotate_left 1; (focus (intro wS hSw; obtain ⟨hS1, hS2, hS3, hS4⟩ := hSw; go_simp <;> with_reducible rfl)); (try simp only [Act.put, List.setIfInBounds_toArray, List.set_cons_zero, List.set_cons_succ]))
          (refine Lw.take1 (i := 8) (v := ?_) rfl (by kernel_rfl) (by kernel_rfl) (by kernel_rfl) (fun _ _ _ h => h) (Or.inl ⟨by rfl, ?_⟩) (by assumption) ?_; rotate_left 1; (focus (intro wS hSw; obtain ⟨hS1, hS2, hS3, hS4⟩ := hSw; go_simp <;> with_reducible rfl)); (try simp only [Act.put, List.setIfInBounds_toArray, List.set_cons_zero, List.set_cons_succ]))
          refine wpAnyH_done (by kernel_rfl) ?_ _
          go_wp2_with fail
          refine wp_region_held_drew (S := fun w' => w'.cell? (ad.add (k1 * 2)) = some (.int .u32 q1) ∧ w'.cell? ⟨(ad.add (k1 * 2)).block, (ad.add (k1 * 2)).off + 1, none⟩ = some (.int .u8 q2) ∧ w'.cell? (ae.add (k2 * 2)) = some (.int .u32 r1) ∧ w'.cell? ⟨(ae.add (k2 * 2)).block, (ae.add (k2 * 2)).off + 1, none⟩ = some (.int .u8 r2)) (by kernel_rfl) ⟨c0, c1, d0, d1⟩ (fun hHeld => ?_)
          (refine Lw.take1 (i := 0) (v := ?_) rfl (by kernel_rfl) (by kernel_rfl) (by kernel_rfl) (fun _ _ _ h => h) (Or.inl ⟨by rfl, ?_⟩) (by assumption) ?_; rotate_left 1; (focus (intro wS hSw; obtain ⟨hS1, hS2, hS3, hS4⟩ := hSw; go_simp <;> with_reducible rfl)); (try simp only [Act.put, List.setIfInBounds_toArray, List.set_cons_zero, List.set_cons_succ]))
          (refine Lw.take1 (i := 1) (v := ?_) rfl (by kernel_rfl) (by kernel_rfl) (by kernel_rfl) (fun _ _ _ h => h) (Or.inl ⟨by rfl, ?_⟩) (by assumption) ?_; rotate_left 1; (focus (intro wS hSw; obtain ⟨hS1, hS2, hS3, hS4⟩ := hSw; go_simp <;> with_reducible rfl)); (try simp only [Act.put, List.setIfInBounds_toArray, List.set_cons_zero, List.set_cons_succ]))
          (refine Lw.take1 (i := 2) (v := ?_) rfl (by kernel_rfl) (by kernel_rfl) (by kernel_rfl) (fun _ _ _ h => h) (Or.inl ⟨by rfl, ?_⟩) (by assumption) ?_; rotate_left 1; (focus (intro wS hSw; obtain ⟨hS1, hS2, hS3, hS4⟩ := hSw; go_simp <;> with_reducible rfl)); (try simp only [Act.put, List.setIfInBounds_toArray, List.set_cons_zero, List.set_cons_succ]))
          (refine Lw.take1 (i := 3) (v := ?_) rfl (by kernel_rfl) (by kernel_rfl) (by kernel_rfl) (fun _ _ _ h => h) (Or.inl ⟨by rfl, ?_⟩) (by assumption) ?_; rotate_left 1; (focus (intro wS hSw; obtain ⟨hS1, hS2, hS3, hS4⟩ := hSw; go_simp <;> with_reducible rfl)); (try simp only [Act.put, List.setIfInBounds_toArray, List.set_cons_zero, List.set_cons_succ]))
          (refine Lw.take1 (i := 4) (v := ?_) rfl (by kernel_rfl) (by kernel_rfl) (by kernel_rfl) (fun _ _ _ h => h) (Or.inl ⟨by rfl, ?_⟩) (by assumption) ?_; rotate_left 1; (focus (intro wS hSw; obtain ⟨hS1, hS2, hS3, hS4⟩ := hSw; go_simp <;> with_reducible rfl)); (try simp only [Act.put, List.setIfInBounds_toArray, List.set_cons_zero, List.set_cons_succ]))
          (refine Lw.take1 (i := 5) (v := ?_) rfl (by kernel_rfl) (by kernel_rfl) (by kernel_rfl) (fun _ _ _ h => h) (Or.inl ⟨by rfl, ?_⟩) (by assumption) ?_; rotate_left 1; (focus (intro wS hSw; obtain ⟨hS1, hS2, hS3, hS4⟩ := hSw; go_simp <;> with_reducible rfl)); (try simp only [Act.put, List.setIfInBounds_toArray, List.set_cons_zero, List.set_cons_succ]))
          (refine Lw.take1 (i := 6) (v := ?_) rfl (by kernel_rfl) (by kernel_rfl) (by kernel_rfl) (fun _ _ _ h => h) (Or.inl ⟨by rfl, ?_⟩) (by assumption) ?_; rotate_left 1; (focus (intro wS hSw; obtain ⟨hS1, hS2, hS3, hS4⟩ := hSw; go_simp <;> with_reducible rfl)); (try simp only [Act.put, List.setIfInBounds_toArray, List.set_cons_zero, List.set_cons_succ]))
          (refine Lw.take1 (i := 7) (v := ?_) rfl (by kernel_rfl) (by kernel_rfl) (by kernel_rfl) (fun _ _ _ h => h) (Or.inl ⟨by rfl, ?_⟩) (by assumption) ?_; rotate_left 1; (focus (intro wS hSw; obtain ⟨hS1, hS2, hS3, hS4⟩ := hSw; go_simp <;> with_reducible rfl)); (try simp only [Act.put, List.setIfInBounds_toArray, List.set_cons_zero, List.set_cons_succ]))
          (refine wpAnyH_ready (rs := [8]) (by kernel_rfl) (by simp) ?_; refine Lw.cons1 (i := 8) rfl (fun K hK => ?_) AllReadyH.nil; go_simp; refine hK.out _ _ ?_ (fun hHeld => ?_); (focus exact Lw.far4 ⟨c0, c1, d0, d1⟩ e00 e00 e01 e01); clear hK K; (try simp only [Act.put, List.setIfInBounds_toArray, List.set_cons_zero, List.set_cons_succ]))
          (refine wpAnyH_ready (rs := [9]) (by kernel_rfl) (by simp) ?_; refine Lw.cons1 (i := 9) rfl (fun K hK => ?_) AllReadyH.nil; go_simp; refine hK.out _ _ ?_ (fun hHeld => ?_); (focus exact Lw.far4 (Lw.far4 ⟨c0, c1, d0, d1⟩ e00 e00 e01 e01) e10 e10 e11 e11); clear hK K; (try simp only [Act.put, List.setIfInBounds_toArray, List.set_cons_zero, List.set_cons_succ]))
          (refine Lw.take1 (i := 10) (v := ?_) rfl (by kernel_rfl) (by kernel_rfl) (by kernel_rfl) (fun _ _ _ h => h) (Or.inl ⟨by rfl, ?_⟩) (by assumption) ?_; rotate_left 1; (focus (intro wS hSw; obtain ⟨hS1, hS2, hS3, hS4⟩ := hSw; go_simp <;> with_reducible rfl)); (try simp only [Act.put, List.setIfInBounds_toArray, List.set_cons_zero, List.set_cons_succ]))
          refine wpAnyH_done (by kernel_rfl) ?_ _
          go_wp2_with fail
          refine bodyPost_ret (v := .tuple #[.agg #[.int .u32 q1, .int .u8 q2], .agg #[.int .u32 r1, .int .u8 r2], .int .i64 0]) (by simp [results, Try.results23, go_sem, l0, l1, m0, m1]) rfl ⟨rfl, ?_⟩
          have hBf := Lw.bt hBW4 hB
          first
            | exact Lw.bset (Lw.bset (Lw.bset (Lw.bset (Below.drew (Below.drew hBf)) (by simp) _) (by simp) _) (by simp) _) (by simp) _
            | (repeat (first | exact hBf | refine Lw.bset ?_ (by simp) _ | refine Below.drew ?_))
        · skip
          have hb1 : (q2 == r2) = false := by simpa using h
          clear h
          go_wp2_with fail
          refine wp_region_held_drew (S := fun w' => w'.cell? (ad.add (k1 * 2)) = some (.int .u32 q1) ∧ w'.cell? ⟨(ad.add (k1 * 2)).block, (ad.add (k1 * 2)).off + 1, none⟩ = some (.int .u8 q2) ∧ w'.cell? (ae.add (k2 * 2)) = some (.int .u32 q1) ∧ w'.cell? ⟨(ae.add (k2 * 2)).block, (ae.add (k2 * 2)).off + 1, none⟩ = some (.int .u8 r2)) (by kernel_rfl) ⟨c0, c1, d0, d1⟩ (fun hHeld => ?_)
          (refine Lw.take1 (i := 0) (v := ?_) rfl (by kernel_rfl) (by kernel_rfl) (by kernel_rfl) (fun _ _ _ h => h) (Or.inl ⟨by rfl, ?_⟩) (by assumption) ?_; rotate_left 1; (focus (intro wS hSw; obtain ⟨hS1, hS2, hS3, hS4⟩ := hSw; go_simp <;> with_reducible rfl)); (try simp only [Act.put, List.setIfInBounds_toArray, List.set_cons_zero, List.set_cons_succ]))
          (refine Lw.take1 (i := 1) (v := ?_) rfl (by kernel_rfl) (by kernel_rfl) (by kernel_rfl) (fun _ _ _ h => h) (Or.inl ⟨by rfl, ?_⟩) (by assumption) ?_; rotate_left 1; (focus (intro wS hSw; obtain ⟨hS1, hS2, hS3, hS4⟩ := hSw; go_simp <;> with_reducible rfl)); (try simp only [Act.put, List.setIfInBounds_toArray, List.set_cons_zero, List.set_cons_succ]))
          (refine Lw.take1 (i := 2) (v := ?_) rfl (by kernel_rfl) (by kernel_rfl) (by kernel_rfl) (fun _ _ _ h => h) (Or.inl ⟨by rfl, ?_⟩) (by assumption) ?_; rotate_left 1; (focus (intro wS hSw; obtain ⟨hS1, hS2, hS3, hS4⟩ := hSw; go_simp <;> with_reducible rfl)); (try simp only [Act.put, List.setIfInBounds_toArray, List.set_cons_zero, List.set_cons_succ]))
          (refine Lw.take1 (i := 3) (v := ?_) rfl (by kernel_rfl) (by kernel_rfl) (by kernel_rfl) (fun _ _ _ h => h) (Or.inl ⟨by rfl, ?_⟩) (by assumption) ?_; rotate_left 1; (focus (intro wS hSw; obtain ⟨hS1, hS2, hS3, hS4⟩ := hSw; go_simp <;> with_reducible rfl)); (try simp only [Act.put, List.setIfInBounds_toArray, List.set_cons_zero, List.set_cons_succ]))
          (refine Lw.take1 (i := 4) (v := ?_) rfl (by kernel_rfl) (by kernel_rfl) (by kernel_rfl) (fun _ _ _ h => h) (Or.inl ⟨by rfl, ?_⟩) (by assumption) ?_; rotate_left 1; (focus (intro wS hSw; obtain ⟨hS1, hS2, hS3, hS4⟩ := hSw; go_simp <;> with_reducible rfl)); (try simp only [Act.put, List.setIfInBounds_toArray, List.set_cons_zero, List.set_cons_succ]))
          (refine Lw.take1 (i := 5) (v := ?_) rfl (by kernel_rfl) (by kernel_rfl) (by kernel_rfl) (fun _ _ _ h => h) (Or.inl ⟨by rfl, ?_⟩) (by assumption) ?_; rotate_left 1; (focus (intro wS hSw; obtain ⟨hS1, hS2, hS3, hS4⟩ := hSw; go_simp <;> with_reducible rfl)); (try simp only [Act.put, List.setIfInBounds_toArray, List.set_cons_zero, List.set_cons_succ]))
          (refine Lw.take1 (i := 6) (v := ?_) rfl (by kernel_rfl) (by kernel_rfl) (by kernel_rfl) (fun _ _ _ h => h) (Or.inl ⟨by rfl, ?_⟩) (by assumption) ?_; rotate_left 1; (focus (intro wS hSw; obtain ⟨hS1, hS2, hS3, hS4⟩ := hSw; go_simp <;> with_reducible rfl)); (try simp only [Act.put, List.setIfInBounds_toArray, List.set_cons_zero, List.set_cons_succ]))
          (refine Lw.take1 (i := 7) (v := ?_) rfl (by kernel_rfl) (by kernel_rfl) (by kernel_rfl) (fun _ _ _ h => h) (Or.inl ⟨by rfl, ?_⟩) (by assumption) ?_; rotate_left 1; (focus (intro wS hSw; obtain ⟨hS1, hS2, hS3, hS4⟩ := hSw; go_simp <;> with_reducible rfl)); (try simp only [Act.put, List.setIfInBounds_toArray, List.set_cons_zero, List.set_cons_succ]))
          (refine Lw.take1 (i := 8) (v := ?_) rfl (by kernel_rfl) (by kernel_rfl) (by kernel_rfl) (fun _ _ _ h => h) (Or.inl ⟨by rfl, ?_⟩) (by assumption) ?_; rotate_left 1; (focus (intro wS hSw; obtain ⟨hS1, hS2, hS3, hS4⟩ := hSw; go_simp <;> with_reducible rfl)); (try simp only [Act.put, List.setIfInBounds_toArray, List.set_cons_zero, List.set_cons_succ]))
          refine wpAnyH_done (by kernel_rfl) ?_ _
          go_wp2_with fail
          refine wp_region_held_drew (S := fun w' => w'.cell? (ad.add (k1 * 2)) = some (.int .u32 q1) ∧ w'.cell? ⟨(ad.add (k1 * 2)).block, (ad.add (k1 * 2)).off + 1, none⟩ = some (.int .u8 q2) ∧ w'.cell? (ae.add (k2 * 2)) = some (.int .u32 q1) ∧ w'.cell? ⟨(ae.add (k2 * 2)).block, (ae.add (k2 * 2)).off + 1, none⟩ = some (.int .u8 r2)) (by kernel_rfl) ⟨c0, c1, d0, d1⟩ (fun hHeld => ?_)
          (refine Lw.take1 (i := 0) (v := ?_) rfl (by kernel_rfl) (by kernel_rfl) (by kernel_rfl) (fun _ _ _ h => h) (Or.inl ⟨by rfl, ?_⟩) (by assumption) ?_; rotate_left 1; (focus (intro wS hSw; obtain ⟨hS1, hS2, hS3, hS4⟩ := hSw; go_simp <;> with_reducible rfl)); (try simp only [Act.put, List.setIfInBounds_toArray, List.set_cons_zero, List.set_cons_succ]))
          (refine Lw.take1 (i := 1) (v := ?_) rfl (by kernel_rfl) (by kernel_rfl) (by kernel_rfl) (fun _ _ _ h => h) (Or.inl ⟨by rfl, ?_⟩) (by assumption) ?_; rotate_left 1; (focus (intro wS hSw; obtain ⟨hS1, hS2, hS3, hS4⟩ := hSw; go_simp <;> with_reducible rfl)); (try simp only [Act.put, List.setIfInBounds_toArray, List.set_cons_zero, List.set_cons_succ]))
          (refine Lw.take1 (i := 2) (v := ?_) rfl (by kernel_rfl) (by kernel_rfl) (by kernel_rfl) (fun _ _ _ h => h) (Or.inl ⟨by rfl, ?_⟩) (by assumption) ?_; rotate_left 1; (focus (intro wS hSw; obtain ⟨hS1, hS2, hS3, hS4⟩ := hSw; go_simp <;> with_reducible rfl)); (try simp only [Act.put, List.setIfInBounds_toArray, List.set_cons_zero, List.set_cons_succ]))
          (refine Lw.take1 (i := 3) (v := ?_) rfl (by kernel_rfl) (by kernel_rfl) (by kernel_rfl) (fun _ _ _ h => h) (Or.inl ⟨by rfl, ?_⟩) (by assumption) ?_; rotate_left 1; (focus (intro wS hSw; obtain ⟨hS1, hS2, hS3, hS4⟩ := hSw; go_simp <;> with_reducible rfl)); (try simp only [Act.put, List.setIfInBounds_toArray, List.set_cons_zero, List.set_cons_succ]))
          (refine Lw.take1 (i := 4) (v := ?_) rfl (by kernel_rfl) (by kernel_rfl) (by kernel_rfl) (fun _ _ _ h => h) (Or.inl ⟨by rfl, ?_⟩) (by assumption) ?_; rotate_left 1; (focus (intro wS hSw; obtain ⟨hS1, hS2, hS3, hS4⟩ := hSw; go_simp <;> with_reducible rfl)); (try simp only [Act.put, List.setIfInBounds_toArray, List.set_cons_zero, List.set_cons_succ]))
          (refine Lw.take1 (i := 5) (v := ?_) rfl (by kernel_rfl) (by kernel_rfl) (by kernel_rfl) (fun _ _ _ h => h) (Or.inl ⟨by rfl, ?_⟩) (by assumption) ?_; rotate_left 1; (focus (intro wS hSw; obtain ⟨hS1, hS2, hS3, hS4⟩ := hSw; go_simp <;> with_reducible rfl)); (try simp only [Act.put, List.setIfInBounds_toArray, List.set_cons_zero, List.set_cons_succ]))
          (refine Lw.take1 (i := 6) (v := ?_) rfl (by kernel_rfl) (by kernel_rfl) (by kernel_rfl) (fun _ _ _ h => h) (Or.inl ⟨by rfl, ?_⟩) (by assumption) ?_; rotate_left 1; (focus (intro wS hSw; obtain ⟨hS1, hS2, hS3, hS4⟩ := hSw; go_simp <;> with_reducible rfl)); (try simp only [Act.put, List.setIfInBounds_toArray, List.set_cons_zero, List.set_cons_succ]))
          (refine Lw.take1 (i := 7) (v := ?_) rfl (by kernel_rfl) (by kernel_rfl) (by kernel_rfl) (fun _ _ _ h => h) (Or.inl ⟨by rfl, ?_⟩) (by assumption) ?_; rotate_left 1; (focus (intro wS hSw; obtain ⟨hS1, hS2, hS3, hS4⟩ := hSw; go_simp <;> with_reducible rfl)); (try simp only [Act.put, List.setIfInBounds_toArray, List.set_cons_zero, List.set_cons_succ]))
          (refine wpAnyH_ready (rs := [8]) (by kernel_rfl) (by simp) ?_; refine Lw.cons1 (i := 8) rfl (fun K hK => ?_) AllReadyH.nil; go_simp; refine hK.out _ _ ?_ (fun hHeld => ?_); (focus exact Lw.far4 ⟨c0, c1, d0, d1⟩ e00 e00 e01 e01); clear hK K; (try simp only [Act.put, List.setIfInBounds_toArray, List.set_cons_zero, List.set_cons_succ]))
          (refine wpAnyH_ready (rs := [9]) (by kernel_rfl) (by simp) ?_; refine Lw.cons1 (i := 9) rfl (fun K hK => ?_) AllReadyH.nil; go_simp; refine hK.out _ _ ?_ (fun hHeld => ?_); (focus exact Lw.far4 (Lw.far4 ⟨c0, c1, d0, d1⟩ e00 e00 e01 e01) e10 e10 e11 e11); clear hK K; (try simp only [Act.put, List.setIfInBounds_toArray, List.set_cons_zero, List.set_cons_succ]))
          (refine Lw.take1 (i := 10) (v := ?_) rfl (by kernel_rfl) (by kernel_rfl) (by kernel_rfl) (fun _ _ _ h => h) (Or.inl ⟨by rfl, ?_⟩) (by assumption) ?_; rotate_left 1; (focus (intro wS hSw; obtain ⟨hS1, hS2, hS3, hS4⟩ := hSw; go_simp <;> with_reducible rfl)); (try simp only [Act.put, List.setIfInBounds_toArray, List.set_cons_zero, List.set_cons_succ]))
          refine wpAnyH_done (by kernel_rfl) ?_ _
          go_wp2_with fail
          refine bodyPost_ret (v := .tuple #[.agg #[.int .u32 q1, .int .u8 q2], .agg #[.int .u32 q1, .int .u8 r2], .int .i64 0]) (by simp [results, Try.results23, go_sem, l0, l1, m0, m1]) rfl ⟨rfl, ?_⟩
          have hBf := Lw.bt hBW4 hB
          first
            | exact Lw.bset (Lw.bset (Lw.bset (Lw.bset (Below.drew (Below.drew hBf)) (by simp) _) (by simp) _) (by simp) _) (by simp) _
            | (repeat (first | exact hBf | refine Lw.bset ?_ (by simp) _ | refine Below.drew ?_))
end Go.Proofs.Ytdibbdlpnfcmiaa

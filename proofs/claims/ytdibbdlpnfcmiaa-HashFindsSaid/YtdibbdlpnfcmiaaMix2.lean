/- The reference's mixAt and HashClash. -/
import Derived.Test.YtdibbdlpnfcmiaaMix
set_option linter.unusedVariables false
set_option linter.unusedSimpArgs false
namespace Go.Proofs.Ytdibbdlpnfcmiaa
open Go.RowKit
set_option maxHeartbeats 1000000 in
theorem ref_mixAt (A : Option Addr) (n c t : Nat) (bs : List Int) (w : World) (R : Lw.Rd w 1 A n (Lw.intsV .u8 bs)) (hy : Lw.Byt bs) (hm : n ≤ 65536) (ht : t < n + 4) :
    Calls Try.prog 54 #[.slice A n c, .int .i64 (t : Int)] w fun e w' => e = .returned (.agg #[.int .u32 (Lw.mxB bs t).1, .int .u8 (Lw.mxB bs t).2]) ∧ Below w.heap.size w w' := by
  have l1 : bs.length = n := by have := R.1; simpa [Lw.intsV] using this
  obtain ⟨K, hK⟩ : ∃ K : Nat, n + 3 - t = K := ⟨_, rfl⟩
  obtain ⟨N, hN⟩ : ∃ N : Nat, n + 4 = N := ⟨_, rfl⟩
  have L : (Lw.padL bs).length = N := by rw [← hN, ← l1]; exact Lw.padL_length bs
  have Y := Lw.padL_byt hy
  have hKN : K < N := by omega
  have E1 : Hid ((Lw.mxB bs t).1 = Lw.hsumL ((Lw.padL bs).take K)) := by show _ = _; unfold Lw.mxB; rw [l1, hK]
  have E2 : Hid ((Lw.mxB bs t).2 = (Lw.padL bs)[K]'(by rw [L]; exact hKN)) := by
    show _ = _; unfold Lw.mxB; rw [l1, hK, List.getD_eq_getElem?_getD, List.getElem?_eq_getElem (by rw [L]; exact hKN)]; rfl
  obtain ⟨q1, hq1⟩ : ∃ q, (Lw.mxB bs t).1 = q := ⟨_, rfl⟩
  obtain ⟨q2, hq2⟩ : ∃ q, (Lw.mxB bs t).2 = q := ⟨_, rfl⟩
  rw [hq1] at E1 ⊢
  rw [hq2] at E2 ⊢
  clear hq1 hq2
  have P := Lib.hid (fun w R => hN ▸ ref_Padded A n c bs w R (by omega))
  have eK : (N : Int) - 1 - (t : Int) = (K : Int) := by omega
  have eK := Lib.hid eK
  have L := Lib.hid L
  have R := Lib.hid R
  have hN2 : N ≤ 70000 := by omega
  have hN3 : 1 ≤ N := by omega
  clear l1 hy hK hN
  generalize Lw.padL bs = ps at *
  go_enter Try.func54, Try.ntmps54
  go_wp2_with (go_at_call 36; refine (P.out _ (R.out.alloc _)).mono ?_; rintro e w1 ⟨A1, c1, rfl, own1, hb1⟩)
  have R1 := Lib.hid (Lw.Rd.of_own own1)
  have hz1 := hb1.size
  simp at hz1
  have B0 := Lib.hid ((hb1.block w.heap.size (by simp)).trans (Lw.blk_new _ _ _))
  have l0 := Lw.blk_cell B0.out 0; have l1 := Lw.blk_cell B0.out 1; have fr := fun i => Lw.blk_free B0.out i
  simp at l0 l1
  have hB1 : Below w.heap.size w w1 := Lw.bt (Lw.balloc (Below.refl _ _) _) hb1
  clear own1 R hb1
  have eK1 := eK.out
  go_loop [6, 7] (fun h i => ∃ k : Nat, i = .int .i64 (k : Int) ∧ k ≤ K ∧ h = .int .i64 (Lw.hsumL (ps.take k))) (fun _ i => K - (intOf i).toNat)
  case atStart => exact ⟨0, rfl, by omega, rfl⟩
  case round =>
    obtain ⟨k, rfl, k1, rfl⟩ := hrel
    obtain ⟨s1, s2⟩ := Lw.hsumL_bd (ps.take k)
    by_cases hlt : k < K
    · have hl : k < ps.length := by rw [L.out]; omega
      obtain ⟨ad, rfl, had, hcell⟩ := R1.out.at1 (show k < N by omega) (Lw.intsV_get hl)
      have T := Lib.hid (Lw.hs_take hl)
      obtain ⟨x, hx⟩ : ∃ x, ps[k] = x := ⟨_, rfl⟩
      obtain ⟨x1, x2⟩ := Y x (hx ▸ List.getElem_mem hl)
      rw [hx] at hcell T
      clear hx
      have i1 : (k : Int) < (N : Int) := by omega
      go_wp2_with (go_at_call 37; refine (ref_step _ x _ s1 (by omega) x1 x2).mono ?_; rintro e w' ⟨rfl, rfl⟩)
      go_round
      case rel => exact ⟨k + 1, by go_num, by omega, by rw [T.out]⟩
      case measure => simp [intOf]; omega
    · have hk : k = K := by omega
      subst hk
      obtain ⟨ad, rfl, had, hcell⟩ := R1.out.at1 hKN (Lw.intsV_get (by rw [L.out]; exact hKN))
      obtain ⟨x, hx⟩ : ∃ x, ps[k]'(by rw [L.out]; exact hKN) = x := ⟨_, rfl⟩
      rw [hx] at hcell E2
      have hx2 := Y x (hx ▸ List.getElem_mem _)
      obtain ⟨x1, x2⟩ := hx2
      clear hx
      have i1 : (k : Int) < (N : Int) := by omega
      have hw0 : w.heap.size < w1.heap.size := by omega
      go_wp2
      refine bodyPost_ret (v := .agg #[.int .u32 (Lw.hsumL (ps.take k)), .int .u8 x]) (by simp [results, Try.results54, go_sem, l0, l1]) rfl ⟨by rw [E1.out, E2.out], ?_⟩
      exact Lw.bset (Lw.bset hB1 (by simp) _) (by simp) _
set_option maxHeartbeats 2000000 in
theorem ref_HashClash (A B : Option Addr) (n m c d t : Nat) (xs bs : List Int) (w : World) (R1 : Lw.Rd w 1 A n (Lw.intsV .u8 xs)) (R2 : Lw.Rd w 1 B m (Lw.intsV .u8 bs)) (hy1 : Lw.Byt xs) (hy2 : Lw.Byt bs) (hn : n ≤ 65536) (hm : m ≤ 65536) (F : Lw.FirstDiff xs bs t) :
    Calls Try.prog 24 #[.slice A n c, .slice B m d] w fun e w' => e = .returned (.tuple #[.agg #[.int .u32 (Lw.mxB xs t).1, .int .u8 (Lw.mxB xs t).2], .agg #[.int .u32 (Lw.mxB bs t).1, .int .u8 (Lw.mxB bs t).2]]) ∧ Below w.heap.size w w' := by
  have l1 : xs.length = n := by have := R1.1; simpa [Lw.intsV] using this
  have l2 : bs.length = m := by have := R2.1; simpa [Lw.intsV] using this
  obtain ⟨f1, f2, f3, f4⟩ := F
  rw [l1] at f1
  rw [l2] at f2
  have R1 := Lib.hid R1
  have R2 := Lib.hid R2
  obtain ⟨⟨q1, q2⟩, hq⟩ : ∃ q, Lw.mxB xs t = q := ⟨_, rfl⟩
  obtain ⟨⟨r1, r2⟩, hr⟩ : ∃ q, Lw.mxB bs t = q := ⟨_, rfl⟩
  have X1 := fun w R => ref_mixAt A n c t xs w R hy1 hn f1
  have X2 := fun w R => ref_mixAt B m d t bs w R hy2 hm f2
  rw [hq] at X1 f3 ⊢
  rw [hr] at X2 f3 ⊢
  have X1 := Lib.hid X1
  have X2 := Lib.hid X2
  have hne2 : ¬ (q1 = r1 ∧ q2 = r2) := fun e => f3 (by rw [e.1, e.2])
  have HN := Lib.hid hne2
  have f4 := Lib.hid f4
  clear l1 l2 hq hr f3 hne2
  obtain ⟨W, hW⟩ : ∃ W, (w.alloc (.cells #[.int .u32 0, .int .u8 0] 53)).alloc (.cells #[.int .u32 0, .int .u8 0] 53) = W := ⟨_, rfl⟩
  have B0 := Lib.hid (show W.heap[w.heap.size]? = some (.cells #[.int .u32 0, .int .u8 0] 53 (0, 0)) from hW ▸ Lw.blk_alloc (Lw.blk_new _ _ _) _)
  have B1 := Lib.hid (show W.heap[w.heap.size + 1]? = some (.cells #[.int .u32 0, .int .u8 0] 53 (0, 0)) from hW ▸ Lw.blk_new' (by simp) _ _)
  have hBW : Below w.heap.size w W := by rw [← hW]; (repeat (first | exact Below.refl _ _ | refine Lw.bt ?_ (by assumption) | refine Lw.balloc ?_ _ | refine Lw.bdrewN ?_ _ | refine Below.drew ?_ | refine Lw.bset ?_ (by first | (simp; done) | (simp; omega) | omega) _))
  have g0 : w.heap.size < W.heap.size := by rw [← hW]; simp; omega
  have g1 : w.heap.size + 1 < W.heap.size := by rw [← hW]; simp
  have HW := Lib.hid hW
  clear hW
  go_enter Try.func24, Try.ntmps24
  go_wp2_with fail
  rw [HW.out]
  go_loopw [6] (fun i wr => ∃ k : Nat, i = .int .i64 (k : Int) ∧ k ≤ t ∧ Below W.heap.size W wr) (fun i _ => t + 1 - (intOf i).toNat)
  case atStart => exact ⟨0, rfl, by omega, Below.refl _ _⟩
  case round =>
    obtain ⟨k, rfl, k1, hB⟩ := hrel
    have hBw : Below w.heap.size w wr := Lw.bt hBW hB
    have hsz := hB.size
    have n1 : (k : Int) < (n : Int) + 4 := by omega
    have m1 : (k : Int) < (m : Int) + 4 := by omega
    by_cases hlt : k < t
    · have e := f4.out k hlt
      have X1 := Lib.hid (fun w R => ref_mixAt A n c k xs w R hy1 hn (by omega))
      have X2 := Lib.hid (fun w R => e ▸ ref_mixAt B m d k bs w R hy2 hm (by omega))
      clear e
      generalize (Lw.mxB xs k) = q at *
      go_wp2_with fail
      refine (X1.out _ (R1.out.below (Nat.le_refl _) hBw)).mono ?_
      rintro e w1 ⟨rfl, hb1⟩
      go_wp2_with fail
      refine (X2.out _ (R2.out.below (Nat.le_refl _) (Lw.bt hBw hb1))).mono ?_
      rintro e w2 ⟨rfl, hb2⟩
      go_wp2_with fail
      go_roundw
      case rel => exact ⟨k + 1, by go_num, by omega, Lw.bt (Lw.bt hB hb1) hb2⟩
      case measure => simp [intOf]; omega
    · have hk : k = t := by omega
      subst hk
      clear f4
      have hne : ¬ q1 = r1 ∨ (q1 = r1 ∧ ¬ q2 = r2) := by
        by_cases h : q1 = r1
        · exact .inr ⟨h, fun e => HN.out ⟨h, e⟩⟩
        · exact .inl h
      rcases hne with h | ⟨rfl, h⟩
      all_goals
        first | (have hb1 : (q1 == r1) = false := by simpa using h) | (have hb1 : (q2 == r2) = false := by simpa using h)
        clear h HN
        go_wp2_with fail
        refine (X1.out _ (R1.out.below (Nat.le_refl _) hBw)).mono ?_
        rintro e w1 ⟨rfl, hb1⟩
        go_wp2_with fail
        refine (X2.out _ (R2.out.below (Nat.le_refl _) (Lw.bt hBw hb1))).mono ?_
        rintro e w2 ⟨rfl, hb2⟩
        have hBw2 := Lw.bt (Lw.bt hBw hb1) hb2
        go_wp2_with fail
        refine (X1.out _ (R1.out.below (Nat.le_refl _) hBw2)).mono ?_
        rintro e w3 ⟨rfl, hb3⟩
        go_wp2_with fail
        refine (X2.out _ (R2.out.below (Nat.le_refl _) (Lw.bt hBw2 hb3))).mono ?_
        rintro e w4 ⟨rfl, hb4⟩
        have hB4 := Lw.bt (Lw.bt (Lw.bt (Lw.bt hB hb1) hb2) hb3) hb4
        have B04 := Lib.hid ((hB4.block _ g0).trans B0.out)
        have B14 := Lib.hid ((hB4.block _ g1).trans B1.out)
        have l0 := Lw.blk_cell B04.out 0; have l1 := Lw.blk_cell B04.out 1; have fr0 := fun i => Lw.blk_free B04.out i
        have m0 := Lw.blk_cell B14.out 0; have m1 := Lw.blk_cell B14.out 1; have fr1 := fun i => Lw.blk_free B14.out i
        simp at l0 l1 m0 m1
        go_wp2_with fail
        first
          | refine bodyPost_ret (v := .tuple #[.agg #[.int .u32 q1, .int .u8 q2], .agg #[.int .u32 r1, .int .u8 r2]]) (by simp [results, Try.results24, go_sem, l0, l1, m0, m1]) rfl ⟨rfl, ?_⟩
          | refine bodyPost_ret (v := .tuple #[.agg #[.int .u32 q1, .int .u8 q2], .agg #[.int .u32 q1, .int .u8 r2]]) (by simp [results, Try.results24, go_sem, l0, l1, m0, m1]) rfl ⟨rfl, ?_⟩
        repeat (first | exact Lw.bt hBW hB4 | refine Lw.bset ?_ (by simp) _)
end Go.Proofs.Ytdibbdlpnfcmiaa

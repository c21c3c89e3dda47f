/- hash.Clash where it fails. -/
import Derived.Test.YtdibbdlpnfcmiaaMix2
import Derived.Test.YtdibbdlpnfcmiaaBeq
set_option linter.unusedVariables false
set_option linter.unusedSimpArgs false
namespace Go.Proofs.Ytdibbdlpnfcmiaa
open Go.RowKit
set_option maxHeartbeats 2000000 in
theorem hash_Clash_same (A B : Option Addr) (n m c d : Nat) (xs bs : List Int) (w : World) (R1 : Lw.Rd w 1 A n (Lw.intsV .u8 xs)) (R2 : Lw.Rd w 1 B m (Lw.intsV .u8 bs)) (hy1 : Lw.Byt xs) (hy2 : Lw.Byt bs) (hn : n ≤ 4096) (hm : m ≤ 4096) (he : xs = bs) :
    Calls Try.prog 23 #[.slice A n c, .slice B m d] w fun e w' => e = .returned (.tuple #[.agg #[.int .u32 0, .int .u8 0], .agg #[.int .u32 0, .int .u8 0], .int .i64 3]) ∧ Below w.heap.size w w' := by
  have Q := Lib.hid (fun w R1 R2 => bytes_Equal A B n m c d xs bs w R1 R2 hy1 hy2)
  have hq : decide (xs = bs) = true := by simpa using he
  rw [hq] at Q
  clear hq
  have R1 := Lib.hid R1
  have R2 := Lib.hid R2
  have hn1 : ¬ (4096 : Int) < (n : Int) := by omega
  have hm1 : ¬ (4096 : Int) < (m : Int) := by omega
  clear hy1 hy2 he
  obtain ⟨W, hW⟩ : ∃ W, (w.alloc (.cells #[.int .u32 0, .int .u8 0] 53)).alloc (.cells #[.int .u32 0, .int .u8 0] 53) = W := ⟨_, rfl⟩
  have B0 := Lib.hid (show W.heap[w.heap.size]? = some (.cells #[.int .u32 0, .int .u8 0] 53 (0, 0)) from hW ▸ Lw.blk_alloc (Lw.blk_new _ _ _) _)
  have B1 := Lib.hid (show W.heap[w.heap.size + 1]? = some (.cells #[.int .u32 0, .int .u8 0] 53 (0, 0)) from hW ▸ Lw.blk_new' (by simp) _ _)
  have hBW : Below w.heap.size w W := by rw [← hW]; (repeat (first | exact Below.refl _ _ | refine Lw.bt ?_ (by assumption) | refine Lw.balloc ?_ _ | refine Lw.bdrewN ?_ _ | refine Below.drew ?_ | refine Lw.bset ?_ (by first | (simp; done) | (simp; omega) | omega) _))
  have s0 : W.heap.size = w.heap.size + 2 := by rw [← hW]; simp
  have HW := Lib.hid hW
  clear hW
  go_enter Try.func23, Try.ntmps23
  rcases Nat.lt_or_ge n m with hmx | hmx
  all_goals
    go_wp2_with fail
    rw [HW.out]
    have RW1 := R1.out.below (Nat.le_refl _) hBW
    have RW2 := R2.out.below (Nat.le_refl _) hBW
    refine (Q.out _ RW1 RW2).mono ?_
    rintro e wq ⟨rfl, rfl⟩
    have l0 := Lw.blk_cell B0.out 0; have l1 := Lw.blk_cell B0.out 1; have fr0 := fun i => Lw.blk_free B0.out i
    have m0 := Lw.blk_cell B1.out 0; have m1 := Lw.blk_cell B1.out 1; have fr1 := fun i => Lw.blk_free B1.out i
    simp at l0 l1 m0 m1
    go_wp2_with fail
    refine bodyPost_ret (v := .tuple #[.agg #[.int .u32 0, .int .u8 0], .agg #[.int .u32 0, .int .u8 0], .int .i64 3]) (by simp [results, Try.results23, go_sem, l0, l1, m0, m1]) rfl ⟨rfl, ?_⟩
    repeat (first | exact hBW | refine Lw.bset ?_ (by simp) _ | refine Below.drew ?_)
set_option maxHeartbeats 2000000 in
theorem hash_Clash_none (A B : Option Addr) (n m c d : Nat) (xs bs : List Int) (w : World) (R1 : Lw.Rd w 1 A n (Lw.intsV .u8 xs)) (R2 : Lw.Rd w 1 B m (Lw.intsV .u8 bs)) (hy1 : Lw.Byt xs) (hy2 : Lw.Byt bs) (hn : n ≤ 4096) (hm : m ≤ 4096) (he : ¬ xs = bs) (hs : ¬ Lw.hsum xs = Lw.hsum bs) :
    Calls Try.prog 23 #[.slice A n c, .slice B m d] w fun e w' => e = .returned (.tuple #[.agg #[.int .u32 0, .int .u8 0], .agg #[.int .u32 0, .int .u8 0], .int .i64 5]) ∧ Below w.heap.size w w' := by
  have H1 := Lib.hid (fun w R => hash_Of A n c xs w R hy1 (by omega))
  have H2 := Lib.hid (fun w R => hash_Of B m d bs w R hy2 (by omega))
  have Q := Lib.hid (fun w R1 R2 => bytes_Equal A B n m c d xs bs w R1 R2 hy1 hy2)
  have hq : decide (xs = bs) = false := by simpa using he
  rw [hq] at Q
  clear hq
  have R1 := Lib.hid R1
  have R2 := Lib.hid R2
  have hn1 : ¬ (4096 : Int) < (n : Int) := by omega
  have hm1 : ¬ (4096 : Int) < (m : Int) := by omega
  generalize Lw.hsum xs = s1 at *
  generalize Lw.hsum bs = s2 at *
  have hb1 : (s1 == s2) = false := by simpa using hs
  clear hy1 hy2 he hs
  obtain ⟨W, hW⟩ : ∃ W, (w.alloc (.cells #[.int .u32 0, .int .u8 0] 53)).alloc (.cells #[.int .u32 0, .int .u8 0] 53) = W := ⟨_, rfl⟩
  have B0 := Lib.hid (show W.heap[w.heap.size]? = some (.cells #[.int .u32 0, .int .u8 0] 53 (0, 0)) from hW ▸ Lw.blk_alloc (Lw.blk_new _ _ _) _)
  have B1 := Lib.hid (show W.heap[w.heap.size + 1]? = some (.cells #[.int .u32 0, .int .u8 0] 53 (0, 0)) from hW ▸ Lw.blk_new' (by simp) _ _)
  have hBW : Below w.heap.size w W := by rw [← hW]; (repeat (first | exact Below.refl _ _ | refine Lw.bt ?_ (by assumption) | refine Lw.balloc ?_ _ | refine Lw.bdrewN ?_ _ | refine Below.drew ?_ | refine Lw.bset ?_ (by first | (simp; done) | (simp; omega) | omega) _))
  have s0 : W.heap.size = w.heap.size + 2 := by rw [← hW]; simp
  have HW := Lib.hid hW
  clear hW
  go_enter Try.func23, Try.ntmps23
  rcases Nat.lt_or_ge n m with hmx | hmx
  all_goals
    go_wp2_with fail
    rw [HW.out]
    have RW1 := R1.out.below (Nat.le_refl _) hBW
    have RW2 := R2.out.below (Nat.le_refl _) hBW
    refine (Q.out _ RW1 RW2).mono ?_
    rintro e wq ⟨rfl, rfl⟩
    go_wp2_with fail
    refine (H1.out _ RW1).mono ?_
    rintro e w1 ⟨rfl, hc1⟩
    go_wp2_with fail
    refine (H2.out _ (RW2.below (Nat.le_refl _) hc1)).mono ?_
    rintro e w2 ⟨rfl, hc2⟩
    have hc12 := Lw.bt hc1 hc2
    have C0 := Lib.hid ((hc12.block w.heap.size (by omega)).trans B0.out)
    have C1 := Lib.hid ((hc12.block (w.heap.size + 1) (by omega)).trans B1.out)
    have l0 := Lw.blk_cell C0.out 0; have l1 := Lw.blk_cell C0.out 1; have fr0 := fun i => Lw.blk_free C0.out i
    have m0 := Lw.blk_cell C1.out 0; have m1 := Lw.blk_cell C1.out 1; have fr1 := fun i => Lw.blk_free C1.out i
    simp at l0 l1 m0 m1
    go_wp2_with fail
    refine bodyPost_ret (v := .tuple #[.agg #[.int .u32 0, .int .u8 0], .agg #[.int .u32 0, .int .u8 0], .int .i64 5]) (by simp [results, Try.results23, go_sem, l0, l1, m0, m1]) rfl ⟨rfl, ?_⟩
    repeat (first | exact Lw.bt hBW hc12 | refine Lw.bset ?_ (by simp) _ | refine Below.drew ?_)
set_option maxHeartbeats 2000000 in
theorem hash_Clash_large (A B : Option Addr) (n m c d : Nat) (w : World) (h : 4096 < n ∨ 4096 < m) :
    Calls Try.prog 23 #[.slice A n c, .slice B m d] w fun e w' => e = .returned (.tuple #[.agg #[.int .u32 0, .int .u8 0], .agg #[.int .u32 0, .int .u8 0], .int .i64 1]) ∧ Below w.heap.size w w' := by
  have hc : (m ≤ n ∧ (4096 : Int) < (n : Int)) ∨ (n < m ∧ (4096 : Int) < (m : Int)) := by omega
  clear h
  obtain ⟨W, hW⟩ : ∃ W, (w.alloc (.cells #[.int .u32 0, .int .u8 0] 53)).alloc (.cells #[.int .u32 0, .int .u8 0] 53) = W := ⟨_, rfl⟩
  have B0 := Lib.hid (Lw.blk_alloc (Lw.blk_new w #[.int .u32 0, .int .u8 0] 53) (.cells #[.int .u32 0, .int .u8 0] 53))
  have B1 := Lib.hid (show ((w.alloc (.cells #[.int .u32 0, .int .u8 0] 53)).alloc (.cells #[.int .u32 0, .int .u8 0] 53)).heap[w.heap.size + 1]? = some (.cells #[.int .u32 0, .int .u8 0] 53 (0, 0)) from Lw.blk_new' (by simp) _ _)
  have hBW : Below w.heap.size w W := by rw [← hW]; (repeat (first | exact Below.refl _ _ | refine Lw.bt ?_ (by assumption) | refine Lw.balloc ?_ _ | refine Lw.bdrewN ?_ _ | refine Below.drew ?_ | refine Lw.bset ?_ (by first | (simp; done) | (simp; omega) | omega) _))
  rw [← hW] at hBW
  clear hW
  go_enter Try.func23, Try.ntmps23
  rcases hc with ⟨hmx, hl⟩ | ⟨hmx, hl⟩
  all_goals
    have l0 := Lw.blk_cell B0.out 0; have l1 := Lw.blk_cell B0.out 1; have fr0 := fun i => Lw.blk_free B0.out i
    have m0 := Lw.blk_cell B1.out 0; have m1 := Lw.blk_cell B1.out 1; have fr1 := fun i => Lw.blk_free B1.out i
    simp at l0 l1 m0 m1
    go_wp2_with fail
    refine bodyPost_ret (v := .tuple #[.agg #[.int .u32 0, .int .u8 0], .agg #[.int .u32 0, .int .u8 0], .int .i64 1]) (by simp [results, Try.results23, go_sem, l0, l1, m0, m1]) rfl ⟨rfl, ?_⟩
    repeat (first | exact hBW | refine Lw.bset ?_ (by simp) _ | refine Below.drew ?_)
end Go.Proofs.Ytdibbdlpnfcmiaa

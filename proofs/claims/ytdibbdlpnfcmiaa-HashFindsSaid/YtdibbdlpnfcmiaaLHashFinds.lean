/- The law HashFinds: where the program finds that two texts differ first is where the reference finds it. -/
import Derived.Test.YtdibbdlpnfcmiaaMix3
import Derived.Test.YtdibbdlpnfcmiaaMix4
import Derived.Test.YtdibbdlpnfcmiaaBytes3
import Derived.Test.YtdibbdlpnfcmiaaRow
set_option linter.unusedVariables false
namespace Go.Proofs.Ytdibbdlpnfcmiaa.LW
open Go.RowKit
set_option maxHeartbeats 2000000 in
theorem HashFinds_large (A B : Option Addr) (n m c d : Nat) (w : World) (h : 4096 < n ∨ 4096 < m) :
    Calls Try.prog 8 #[.slice A n c, .slice B m d] w fun e w' => e = .returned (.bool true) ∧ Below w.heap.size w w' := by
  have X := Lib.hid (fun w => hash_Clash_large A B n m c d w h)
  have hc : (4096 : Int) < (n : Int) ∨ (¬ (4096 : Int) < (n : Int) ∧ (4096 : Int) < (m : Int)) := by omega
  clear h
  go_enter Try.func8, Try.ntmps8
  rcases hc with hl | ⟨hl1, hl⟩
  all_goals
    go_wp2_with fail
    refine (X.out _).mono ?_
    rintro e w1 ⟨rfl, hb1⟩
    have hz := hb1.size
    go_wp2
    go_ret
    refine ⟨by simp, ?_⟩
    repeat (first | exact hb1 | refine Lw.bset ?_ (by simp; omega) _ | refine Lw.balloc ?_ _)
set_option maxHeartbeats 2000000 in
theorem HashFinds_same (A B : Option Addr) (n m c d : Nat) (xs bs : List Int) (w : World) (R1 : Lw.Rd w 1 A n (Lw.intsV .u8 xs)) (R2 : Lw.Rd w 1 B m (Lw.intsV .u8 bs)) (hy1 : Lw.Byt xs) (hy2 : Lw.Byt bs) (hn : n ≤ 4096) (hm : m ≤ 4096) (he : xs = bs) :
    Calls Try.prog 8 #[.slice A n c, .slice B m d] w fun e w' => e = .returned (.bool true) ∧ Below w.heap.size w w' := by
  have X := Lib.hid (fun w R1 R2 => hash_Clash_same A B n m c d xs bs w R1 R2 hy1 hy2 hn hm he)
  have Q := Lib.hid (fun w R1 R2 => ref_Bytes A B n m c d xs bs w R1 R2 (by omega) (by omega))
  have hq : decide (xs = bs) = true := by simpa using he
  rw [hq] at Q
  clear hq
  have R1 := Lib.hid R1
  have R2 := Lib.hid R2
  have hn1 : ¬ (4096 : Int) < (n : Int) := by omega
  have hm1 : ¬ (4096 : Int) < (m : Int) := by omega
  clear hy1 hy2 he
  go_enter Try.func8, Try.ntmps8
  go_wp2_with fail
  refine (X.out _ R1.out R2.out).mono ?_
  rintro e w1 ⟨rfl, hb1⟩
  have hz := hb1.size
  go_wp2_with fail
  obtain ⟨W, hW⟩ : ∃ W, (w1.alloc (.cells #[.int .u32 0, .int .u8 0] 53)).alloc (.cells #[.int .u32 0, .int .u8 0] 53) = W := ⟨_, rfl⟩
  have B0 := Lib.hid (show W.heap[w1.heap.size]? = some (.cells #[.int .u32 0, .int .u8 0] 53 (0, 0)) from hW ▸ Lw.blk_alloc (Lw.blk_new _ _ _) _)
  have B1 := Lib.hid (show W.heap[w1.heap.size + 1]? = some (.cells #[.int .u32 0, .int .u8 0] 53 (0, 0)) from hW ▸ Lw.blk_new' (by simp) _ _)
  have hbW : Below w.heap.size w W := by rw [← hW]; exact Lw.balloc (Lw.balloc hb1 _) _
  have hzW : W.heap.size = w1.heap.size + 2 := by rw [← hW]; simp
  rw [hW]
  clear hW
  refine (Q.out _ (R1.out.below (Nat.le_refl _) hbW) (R2.out.below (Nat.le_refl _) hbW)).mono ?_
  rintro e w2 ⟨rfl, hc2⟩
  have C0 := Lib.hid ((hc2.block w1.heap.size (by omega)).trans B0.out)
  have C1 := Lib.hid ((hc2.block (w1.heap.size + 1) (by omega)).trans B1.out)
  have l0 := Lw.blk_cell C0.out 0; have l1 := Lw.blk_cell C0.out 1; have l2 := Lw.blk_cell C1.out 0; have l3 := Lw.blk_cell C1.out 1
  simp at l0 l1 l2 l3
  go_wp2
  go_ret
  exact ⟨by simp, Lw.bt hbW hc2⟩
set_option maxHeartbeats 2000000 in
theorem HashFinds_none (A B : Option Addr) (n m c d : Nat) (xs bs : List Int) (w : World) (R1 : Lw.Rd w 1 A n (Lw.intsV .u8 xs)) (R2 : Lw.Rd w 1 B m (Lw.intsV .u8 bs)) (hy1 : Lw.Byt xs) (hy2 : Lw.Byt bs) (hn : n ≤ 4096) (hm : m ≤ 4096) (he : ¬ xs = bs) (hs : ¬ Lw.hsum xs = Lw.hsum bs) :
    Calls Try.prog 8 #[.slice A n c, .slice B m d] w fun e w' => e = .returned (.bool true) ∧ Below w.heap.size w w' := by
  have X := Lib.hid (fun w R1 R2 => hash_Clash_none A B n m c d xs bs w R1 R2 hy1 hy2 hn hm he hs)
  have H1 := Lib.hid (fun w R => ref_Sum A n c xs w R hy1 (by omega))
  have H2 := Lib.hid (fun w R => ref_Sum B m d bs w R hy2 (by omega))
  have Q := Lib.hid (fun w R1 R2 => ref_Bytes A B n m c d xs bs w R1 R2 (by omega) (by omega))
  have hq : decide (xs = bs) = false := by simpa using he
  rw [hq] at Q
  clear hq
  have R1 := Lib.hid R1
  have R2 := Lib.hid R2
  have hn1 : ¬ (4096 : Int) < (n : Int) := by omega
  have hm1 : ¬ (4096 : Int) < (m : Int) := by omega
  generalize Lw.hsum xs = s1 at *
  generalize Lw.hsum bs = s2 at *
  have hbs : (s1 == s2) = false := by simpa using hs
  clear hy1 hy2 he hs
  go_enter Try.func8, Try.ntmps8
  go_wp2_with fail
  refine (X.out _ R1.out R2.out).mono ?_
  rintro e w1 ⟨rfl, hb1⟩
  have hz := hb1.size
  go_wp2_with fail
  obtain ⟨W, hW⟩ : ∃ W, (w1.alloc (.cells #[.int .u32 0, .int .u8 0] 53)).alloc (.cells #[.int .u32 0, .int .u8 0] 53) = W := ⟨_, rfl⟩
  have B0 := Lib.hid (show W.heap[w1.heap.size]? = some (.cells #[.int .u32 0, .int .u8 0] 53 (0, 0)) from hW ▸ Lw.blk_alloc (Lw.blk_new _ _ _) _)
  have B1 := Lib.hid (show W.heap[w1.heap.size + 1]? = some (.cells #[.int .u32 0, .int .u8 0] 53 (0, 0)) from hW ▸ Lw.blk_new' (by simp) _ _)
  have hbW : Below w.heap.size w W := by rw [← hW]; exact Lw.balloc (Lw.balloc hb1 _) _
  have hzW : W.heap.size = w1.heap.size + 2 := by rw [← hW]; simp
  rw [hW]
  clear hW
  refine (Q.out _ (R1.out.below (Nat.le_refl _) hbW) (R2.out.below (Nat.le_refl _) hbW)).mono ?_
  rintro e w2 ⟨rfl, hc2⟩
  go_wp2_with fail
  refine (H1.out _ (R1.out.below (Nat.le_refl _) (Lw.bt hbW hc2))).mono ?_
  rintro e w3 ⟨rfl, hc3⟩
  have hc23 := Lw.bt hc2 hc3
  go_wp2_with fail
  refine (H2.out _ (R2.out.below (Nat.le_refl _) (Lw.bt hbW hc23))).mono ?_
  rintro e w4 ⟨rfl, hc4⟩
  have hc24 := Lw.bt hc23 hc4
  have C0 := Lib.hid ((hc24.block w1.heap.size (by omega)).trans B0.out)
  have C1 := Lib.hid ((hc24.block (w1.heap.size + 1) (by omega)).trans B1.out)
  have l0 := Lw.blk_cell C0.out 0; have l1 := Lw.blk_cell C0.out 1; have l2 := Lw.blk_cell C1.out 0; have l3 := Lw.blk_cell C1.out 1
  simp at l0 l1 l2 l3
  go_wp2
  go_ret
  exact ⟨by simp, Lw.bt hbW hc24⟩
set_option maxHeartbeats 2000000 in
theorem HashFinds_ok (A B : Option Addr) (n m c d : Nat) (xs bs : List Int) (w : World) (R1 : Lw.Rd w 1 A n (Lw.intsV .u8 xs)) (R2 : Lw.Rd w 1 B m (Lw.intsV .u8 bs)) (hy1 : Lw.Byt xs) (hy2 : Lw.Byt bs) (hn : n ≤ 4096) (hm : m ≤ 4096) (t : Nat) (he : ¬ xs = bs) (hs : Lw.hsum xs = Lw.hsum bs) (F : Lw.FirstDiff xs bs t) :
    Calls Try.prog 8 #[.slice A n c, .slice B m d] w fun e w' => e = .returned (.bool true) ∧ Below w.heap.size w w' := by
  have X := Lib.hid (fun w R1 R2 => hash_Clash A B n m c d t xs bs w R1 R2 hy1 hy2 hn hm hs he F)
  have Y := Lib.hid (fun w R1 R2 => ref_HashClash A B n m c d t xs bs w R1 R2 hy1 hy2 (by omega) (by omega) F)
  have H1 := Lib.hid (fun w R => ref_Sum A n c xs w R hy1 (by omega))
  have H2 := Lib.hid (fun w R => hs ▸ ref_Sum B m d bs w R hy2 (by omega))
  have Q := Lib.hid (fun w R1 R2 => ref_Bytes A B n m c d xs bs w R1 R2 (by omega) (by omega))
  have hq : decide (xs = bs) = false := by simpa using he
  rw [hq] at Q
  clear hq
  have R1 := Lib.hid R1
  have R2 := Lib.hid R2
  have hn1 : ¬ (4096 : Int) < (n : Int) := by omega
  have hm1 : ¬ (4096 : Int) < (m : Int) := by omega
  obtain ⟨⟨q1, q2⟩, hq⟩ : ∃ q, Lw.mxB xs t = q := ⟨_, rfl⟩
  obtain ⟨⟨r1, r2⟩, hr⟩ : ∃ q, Lw.mxB bs t = q := ⟨_, rfl⟩
  rw [hq, hr] at X Y
  generalize Lw.hsum xs = s1 at *
  clear hy1 hy2 he hs hq hr F
  go_enter Try.func8, Try.ntmps8
  go_wp2_with fail
  refine (X.out _ R1.out R2.out).mono ?_
  rintro e w1 ⟨rfl, hb1⟩
  have hz := hb1.size
  go_wp2_with fail
  obtain ⟨W, hW⟩ : ∃ W, (w1.alloc (.cells #[.int .u32 q1, .int .u8 q2] 53)).alloc (.cells #[.int .u32 r1, .int .u8 r2] 53) = W := ⟨_, rfl⟩
  have B0 := Lib.hid (show W.heap[w1.heap.size]? = some (.cells #[.int .u32 q1, .int .u8 q2] 53 (0, 0)) from hW ▸ Lw.blk_alloc (Lw.blk_new _ _ _) _)
  have B1 := Lib.hid (show W.heap[w1.heap.size + 1]? = some (.cells #[.int .u32 r1, .int .u8 r2] 53 (0, 0)) from hW ▸ Lw.blk_new' (by simp) _ _)
  have hbW : Below w.heap.size w W := by rw [← hW]; exact Lw.balloc (Lw.balloc hb1 _) _
  have hzW : W.heap.size = w1.heap.size + 2 := by rw [← hW]; simp
  rw [hW]
  clear hW
  refine (Q.out _ (R1.out.below (Nat.le_refl _) hbW) (R2.out.below (Nat.le_refl _) hbW)).mono ?_
  rintro e w2 ⟨rfl, hc2⟩
  go_wp2_with fail
  refine (H1.out _ (R1.out.below (Nat.le_refl _) (Lw.bt hbW hc2))).mono ?_
  rintro e w3 ⟨rfl, hc3⟩
  have hc23 := Lw.bt hc2 hc3
  go_wp2_with fail
  refine (H2.out _ (R2.out.below (Nat.le_refl _) (Lw.bt hbW hc23))).mono ?_
  rintro e w4 ⟨rfl, hc4⟩
  have hc24 := Lw.bt hc23 hc4
  go_wp2_with fail
  refine (Y.out _ (R1.out.below (Nat.le_refl _) (Lw.bt hbW hc24)) (R2.out.below (Nat.le_refl _) (Lw.bt hbW hc24))).mono ?_
  rintro e w5 ⟨rfl, hc5⟩
  have hc25 := Lw.bt hc24 hc5
  have hb5 := Lw.bt hbW hc25
  have hz5 := hc25.size
  have C0 := Lib.hid ((hc25.block w1.heap.size (by omega)).trans B0.out)
  have C1 := Lib.hid ((hc25.block (w1.heap.size + 1) (by omega)).trans B1.out)
  have D0 := Lw.blk_alloc (Lw.blk_alloc C0.out (.cells #[.int .u32 q1, .int .u8 q2] 53)) (.cells #[.int .u32 r1, .int .u8 r2] 53)
  have D1 := Lw.blk_alloc (Lw.blk_alloc C1.out (.cells #[.int .u32 q1, .int .u8 q2] 53)) (.cells #[.int .u32 r1, .int .u8 r2] 53)
  have l0 : ((w5.alloc (.cells #[.int .u32 q1, .int .u8 q2] 53)).alloc (.cells #[.int .u32 r1, .int .u8 r2] 53)).cell? ⟨w1.heap.size, 0, none⟩ = some (.int .u32 q1) := (Lw.blk_cell D0 0).trans (by simp)
  have l1 : ((w5.alloc (.cells #[.int .u32 q1, .int .u8 q2] 53)).alloc (.cells #[.int .u32 r1, .int .u8 r2] 53)).cell? ⟨w1.heap.size, 1, none⟩ = some (.int .u8 q2) := (Lw.blk_cell D0 1).trans (by simp)
  have l2 : ((w5.alloc (.cells #[.int .u32 q1, .int .u8 q2] 53)).alloc (.cells #[.int .u32 r1, .int .u8 r2] 53)).cell? ⟨w1.heap.size + 1, 0, none⟩ = some (.int .u32 r1) := (Lw.blk_cell D1 0).trans (by simp)
  have l3 : ((w5.alloc (.cells #[.int .u32 q1, .int .u8 q2] 53)).alloc (.cells #[.int .u32 r1, .int .u8 r2] 53)).cell? ⟨w1.heap.size + 1, 1, none⟩ = some (.int .u8 r2) := (Lw.blk_cell D1 1).trans (by simp)
  clear D0 D1
  go_wp2
  go_ret
  exact ⟨by simp, Lw.balloc (Lw.balloc hb5 _) _⟩
theorem HashFinds (A : Option Addr) (n c : Nat) (zs : List Int) (B : Option Addr) (m d : Nat) (ys : List Int) (w : World) (h1 : Lw.IsRow .u8 w A n c zs) (h2 : Lw.IsRow .u8 w B m d ys) :
    Calls Try.prog 8 #[.slice A n c, .slice B m d] w fun e w' => e = .returned (.bool true) ∧ Below w.heap.size w w' := by
  obtain ⟨R1, _, _, _, hw1⟩ := h1.rd
  obtain ⟨R2, _, _, _, hw2⟩ := h2.rd
  have hy1 : Lw.Byt (zs.take n) := fun z hz => by have := bounds_u8 (hw1 z hz); omega
  have hy2 : Lw.Byt (ys.take m) := fun z hz => by have := bounds_u8 (hw2 z hz); omega
  have l1 : (zs.take n).length = n := by have := R1.1; simpa [Lw.intsV] using this
  have l2 : (ys.take m).length = m := by have := R2.1; simpa [Lw.intsV] using this
  by_cases hl : 4096 < n ∨ 4096 < m
  · exact HashFinds_large A B n m c d w hl
  · by_cases he : zs.take n = ys.take m
    · exact HashFinds_same A B n m c d _ _ w R1 R2 hy1 hy2 (by omega) (by omega) he
    · by_cases hs : Lw.hsum (zs.take n) = Lw.hsum (ys.take m)
      · obtain ⟨t, F⟩ := Lw.first_diff (a := zs.take n) (b := ys.take m) (by omega) (by omega) he
        exact HashFinds_ok A B n m c d _ _ w R1 R2 hy1 hy2 (by omega) (by omega) t he hs F
      · exact HashFinds_none A B n m c d _ _ w R1 R2 hy1 hy2 (by omega) (by omega) he hs
end Go.Proofs.Ytdibbdlpnfcmiaa.LW

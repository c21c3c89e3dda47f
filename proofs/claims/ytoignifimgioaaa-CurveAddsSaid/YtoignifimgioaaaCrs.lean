/- curve.Add. -/
import Derived.Test.YtoignifimgioaaaCrr
namespace Lw
open Go Go.RowKit
/-- the code of two spots, as the program asks it and as the statements do -/
theorem two_first (P A B : Int) (s t : SpotT) : sptE P A B [s, t] = if oneE P A B s = 0 then oneE P A B t else oneE P A B s := by
  unfold oneE
  by_cases hc : crvE P A B = 0
  · rcases h1 : spotB P A B s.X s.Y s.F with _ | _ <;> rcases h2 : spotB P A B t.X t.Y t.F with _ | _ <;> simp [sptE, hc, h1, h2]
  · rw [spt_bad hc, spt_bad hc, if_neg hc]
theorem two_ok {P A B : Int} {s t : SpotT} (h : sptE P A B [s, t] = 0) : crvE P A B = 0 ∧ spotB P A B s.X s.Y s.F = true ∧ spotB P A B t.X t.Y t.F = true := by
  by_cases hc : crvE P A B = 0
  · rcases h1 : spotB P A B s.X s.Y s.F with _ | _ <;> rcases h2 : spotB P A B t.X t.Y t.F with _ | _ <;> simp [sptE, hc, h1, h2] at h ⊢
  · rw [spt_bad hc] at h; exact absurd h hc
end Lw
set_option linter.unusedVariables false
set_option linter.unusedSimpArgs false
namespace Go.Proofs.Ytoignifimgioaaa
open Go.RowKit
set_option maxHeartbeats 2000000 in
theorem curve_Add_bad (P A B X Y X' Y' : Int) (F F' : Bool) (w : World) (h : ¬ Lw.sptE P A B [⟨X, Y, F⟩, ⟨X', Y', F'⟩] = 0) :
    Calls Try.prog 35 #[.agg #[.int .i64 P, .int .i64 A, .int .i64 B], .agg #[.int .i64 X, .int .i64 Y, .bool F], .agg #[.int .i64 X', .int .i64 Y', .bool F']] w fun e w' => e = .returned (.tuple #[.agg #[.int .i64 0, .int .i64 0, .bool false], .int .i64 (Lw.sptE P A B [⟨X, Y, F⟩, ⟨X', Y', F'⟩])]) ∧ Below w.heap.size w w' := by
  have S : ∀ (V : Option Addr) (w : World), Lw.Rd w 3 V 2 (Lw.spotsV [⟨X, Y, F⟩, ⟨X', Y', F'⟩]) → Calls Try.prog 50 #[.agg #[.int .i64 P, .int .i64 A, .int .i64 B], .slice V 2 2] w fun e w' => e = .returned (.tuple #[.agg #[.int .i64 0, .int .i64 0, .int .i64 0], .int .i64 (Lw.sptE P A B [⟨X, Y, F⟩, ⟨X', Y', F'⟩])]) ∧ Below w.heap.size w w' := by
    intro V w R
    by_cases hc : Lw.crvE P A B = 0
    · have := curve_spots_ok P A B V 2 2 [⟨X, Y, F⟩, ⟨X', Y', F'⟩] w R (by omega) hc
      have e : Lw.sptV P A B [⟨X, Y, F⟩, ⟨X', Y', F'⟩] = .agg #[.int .i64 0, .int .i64 0, .int .i64 0] := if_neg h
      rw [e] at this
      exact this
    · exact curve_spots_bad P A B V 2 2 [⟨X, Y, F⟩, ⟨X', Y', F'⟩] w hc
  replace S := Lib.hid S
  have h1 : (Lw.sptE P A B [⟨X, Y, F⟩, ⟨X', Y', F'⟩] == 0) = false := by simpa using h
  obtain ⟨E, hE⟩ : ∃ E, Lw.sptE P A B [⟨X, Y, F⟩, ⟨X', Y', F'⟩] = E := ⟨_, rfl⟩
  rw [hE] at S h1
  rw [hE]
  clear hE h
  obtain ⟨W, hW⟩ : ∃ W, (((w.alloc (.cells #[.int .i64 P, .int .i64 A, .int .i64 B] 32)).alloc (.cells #[.int .i64 X, .int .i64 Y, .bool F] 36)).alloc (.cells #[.int .i64 X', .int .i64 Y', .bool F'] 36)).alloc (.cells #[.int .i64 0, .int .i64 0, .bool false] 36) = W := ⟨_, rfl⟩
  have B0 := show W.heap[w.heap.size]? = some (.cells #[.int .i64 P, .int .i64 A, .int .i64 B] 32 (0, 0)) from hW ▸ Lw.blk_alloc (Lw.blk_alloc (Lw.blk_alloc (Lw.blk_new _ _ _) _) _) _
  have B1 := show W.heap[w.heap.size + 1]? = some (.cells #[.int .i64 X, .int .i64 Y, .bool F] 36 (0, 0)) from hW ▸ Lw.blk_alloc (Lw.blk_alloc (Lw.blk_new' (by simp) _ _) _) _
  have B2 := show W.heap[w.heap.size + 1 + 1]? = some (.cells #[.int .i64 X', .int .i64 Y', .bool F'] 36 (0, 0)) from hW ▸ Lw.blk_alloc (Lw.blk_new' (by simp) _ _) _
  have B3 := Lib.hid (show W.heap[w.heap.size + 1 + 1 + 1]? = some (.cells #[.int .i64 0, .int .i64 0, .bool false] 36 (0, 0)) from hW ▸ Lw.blk_new' (by simp) _ _)
  have l0 := Lw.blk_cell B0 0; have l1 := Lw.blk_cell B0 1; have l2 := Lw.blk_cell B0 2
  have k0 := Lw.blk_cell B1 0; have k1 := Lw.blk_cell B1 1; have k2 := Lw.blk_cell B1 2
  have m0 := Lw.blk_cell B2 0; have m1 := Lw.blk_cell B2 1; have m2 := Lw.blk_cell B2 2
  simp at l0 l1 l2 k0 k1 k2 m0 m1 m2
  have hBW : Below w.heap.size w W := by rw [← hW]; exact Lw.balloc (Lw.balloc (Lw.balloc (Lw.balloc (Below.refl _ _) _) _) _) _
  have hWs3 : w.heap.size + 1 + 1 + 1 < W.heap.size := by rw [← hW]; simp
  have hWs : w.heap.size < W.heap.size := by omega
  have hWs1 : w.heap.size + 1 < W.heap.size := by omega
  have hWs2 : w.heap.size + 1 + 1 < W.heap.size := by omega
  have HW := Lib.hid hW
  have B1 := Lib.hid B1
  have B2 := Lib.hid B2
  clear hW B0

  go_enter Try.func35, Try.ntmps35
  go_wp2_with fail
  rw [HW.out]
  have BV := Lw.blk_new' (W := W) (b := w.heap.size + 1 + 1 + 1 + 1) (by rw [← HW.out]; simp) #[.int .i64 X, .int .i64 Y, .bool F, .int .i64 X', .int .i64 Y', .bool F'] 36
  refine (S.out _ _ (Lw.Rd.lit BV rfl rfl)).mono ?_
  rintro e w1 ⟨rfl, hb1⟩
  have C2 := (Lw.blk_alloc ((hb1.block (w.heap.size + 1 + 1 + 1) (by simp; omega)).trans (Lw.blk_alloc B3.out _)) (.cells #[.int .i64 0, .int .i64 0, .int .i64 0] 79))
  have f1 := Lw.blk_free C2 0; have f2 := Lw.blk_free C2 1; have f3 := Lw.blk_free C2 2; have c1 := Lw.blk_cell C2 0; have c2 := Lw.blk_cell C2 1; have c3 := Lw.blk_cell C2 2
  simp at c1 c2 c3 f1 f2 f3
  obtain ⟨r0, r1, r2⟩ := Lw.set3c (x := .int .i64 0) (y := .int .i64 0) (z := .bool false) C2
  have r0 := Lib.hid r0; have r1 := Lib.hid r1; have r2 := Lib.hid r2
  have HB := Lib.hid (Lw.balloc (Lw.bt (Lw.balloc hBW _) hb1) (.cells #[.int .i64 0, .int .i64 0, .int .i64 0] 79))
  clear BV C2
  go_wp2_with fail
  refine bodyPost_ret (v := .tuple #[.agg #[.int .i64 0, .int .i64 0, .bool false], .int .i64 E]) (by simp only [results, Try.results35]; simp [go_sem, r0.out, r1.out, r2.out]) rfl ⟨rfl, Lw.bset3 HB.out (by omega) _ _ _⟩
set_option maxHeartbeats 2000000 in
theorem curve_Add_ok (P A B X Y X' Y' : Int) (F F' : Bool) (w : World) (hc : Lw.crvE P A B = 0) (hs : Lw.spotB P A B X Y F = true) (ht : Lw.spotB P A B X' Y' F' = true) :
    Calls Try.prog 35 #[.agg #[.int .i64 P, .int .i64 A, .int .i64 B], .agg #[.int .i64 X, .int .i64 Y, .bool F], .agg #[.int .i64 X', .int .i64 Y', .bool F']] w fun e w' => e = .returned (.tuple #[(Lw.addT P A ⟨X, Y, F⟩ ⟨X', Y', F'⟩).v, .int .i64 0]) ∧ Below w.heap.size w w' := by
  have S : ∀ (V : Option Addr) (w : World), Lw.Rd w 3 V 2 (Lw.spotsV [⟨X, Y, F⟩, ⟨X', Y', F'⟩]) → Calls Try.prog 50 #[.agg #[.int .i64 P, .int .i64 A, .int .i64 B], .slice V 2 2] w fun e w' => e = .returned (.tuple #[.agg #[.int .i64 P, .int .i64 A, .int .i64 B], .int .i64 0]) ∧ Below w.heap.size w w' := by
    intro V w R
    have := curve_spots_ok P A B V 2 2 [⟨X, Y, F⟩, ⟨X', Y', F'⟩] w R (by omega) hc
    rw [Lw.spt_okV hc (by simp [hs, ht])] at this
    exact this
  replace S := Lib.hid S
  have AD := fun w => curve_add P A B X Y X' Y' F F' w (Lw.of_crv hc).1 hs ht
  obtain ⟨X2, hX2⟩ : ∃ v, (Lw.addT P A ⟨X, Y, F⟩ ⟨X', Y', F'⟩).X = v := ⟨_, rfl⟩
  obtain ⟨Y2, hY2⟩ : ∃ v, (Lw.addT P A ⟨X, Y, F⟩ ⟨X', Y', F'⟩).Y = v := ⟨_, rfl⟩
  obtain ⟨F2, hF2⟩ : ∃ v, (Lw.addT P A ⟨X, Y, F⟩ ⟨X', Y', F'⟩).F = v := ⟨_, rfl⟩
  have NV : (Lw.addT P A ⟨X, Y, F⟩ ⟨X', Y', F'⟩).v = .agg #[.int .i64 X2, .int .i64 Y2, .bool F2] := by unfold Lw.SpotT.v; rw [hX2, hY2, hF2]
  rw [NV] at AD
  rw [NV]
  replace AD := Lib.hid AD
  clear hX2 hY2 hF2 NV hs ht hc
  obtain ⟨W, hW⟩ : ∃ W, (((w.alloc (.cells #[.int .i64 P, .int .i64 A, .int .i64 B] 32)).alloc (.cells #[.int .i64 X, .int .i64 Y, .bool F] 36)).alloc (.cells #[.int .i64 X', .int .i64 Y', .bool F'] 36)).alloc (.cells #[.int .i64 0, .int .i64 0, .bool false] 36) = W := ⟨_, rfl⟩
  have B0 := show W.heap[w.heap.size]? = some (.cells #[.int .i64 P, .int .i64 A, .int .i64 B] 32 (0, 0)) from hW ▸ Lw.blk_alloc (Lw.blk_alloc (Lw.blk_alloc (Lw.blk_new _ _ _) _) _) _
  have B1 := show W.heap[w.heap.size + 1]? = some (.cells #[.int .i64 X, .int .i64 Y, .bool F] 36 (0, 0)) from hW ▸ Lw.blk_alloc (Lw.blk_alloc (Lw.blk_new' (by simp) _ _) _) _
  have B2 := show W.heap[w.heap.size + 1 + 1]? = some (.cells #[.int .i64 X', .int .i64 Y', .bool F'] 36 (0, 0)) from hW ▸ Lw.blk_alloc (Lw.blk_new' (by simp) _ _) _
  have B3 := Lib.hid (show W.heap[w.heap.size + 1 + 1 + 1]? = some (.cells #[.int .i64 0, .int .i64 0, .bool false] 36 (0, 0)) from hW ▸ Lw.blk_new' (by simp) _ _)
  have l0 := Lw.blk_cell B0 0; have l1 := Lw.blk_cell B0 1; have l2 := Lw.blk_cell B0 2
  have k0 := Lw.blk_cell B1 0; have k1 := Lw.blk_cell B1 1; have k2 := Lw.blk_cell B1 2
  have m0 := Lw.blk_cell B2 0; have m1 := Lw.blk_cell B2 1; have m2 := Lw.blk_cell B2 2
  simp at l0 l1 l2 k0 k1 k2 m0 m1 m2
  have hBW : Below w.heap.size w W := by rw [← hW]; exact Lw.balloc (Lw.balloc (Lw.balloc (Lw.balloc (Below.refl _ _) _) _) _) _
  have hWs3 : w.heap.size + 1 + 1 + 1 < W.heap.size := by rw [← hW]; simp
  have hWs : w.heap.size < W.heap.size := by omega
  have hWs1 : w.heap.size + 1 < W.heap.size := by omega
  have hWs2 : w.heap.size + 1 + 1 < W.heap.size := by omega
  have HW := Lib.hid hW
  have B1 := Lib.hid B1
  have B2 := Lib.hid B2
  clear hW B0

  go_enter Try.func35, Try.ntmps35
  go_wp2_with fail
  rw [HW.out]
  have BV := Lw.blk_new' (W := W) (b := w.heap.size + 1 + 1 + 1 + 1) (by rw [← HW.out]; simp) #[.int .i64 X, .int .i64 Y, .bool F, .int .i64 X', .int .i64 Y', .bool F'] 36
  refine (S.out _ _ (Lw.Rd.lit BV rfl rfl)).mono ?_
  rintro e w1 ⟨rfl, hb1⟩
  have C1 := (hb1.block (w.heap.size + 1) (by simp; omega)).trans (Lw.blk_alloc B1.out _)
  have C2 := (hb1.block (w.heap.size + 1 + 1) (by simp; omega)).trans (Lw.blk_alloc B2.out _)
  have C3 := Lib.hid (Lw.blk_alloc ((hb1.block (w.heap.size + 1 + 1 + 1) (by simp; omega)).trans (Lw.blk_alloc B3.out _)) (.cells #[.int .i64 P, .int .i64 A, .int .i64 B] 79))
  have hz1 := hb1.size
  simp at hz1
  have hy1 : w.heap.size + 1 < w1.heap.size := by omega
  have hy2 : w.heap.size + 1 + 1 < w1.heap.size := by omega
  have q0 := Lw.blk_cell C1 0; have q1 := Lw.blk_cell C1 1; have q2 := Lw.blk_cell C1 2
  have q3 := Lw.blk_cell C2 0; have q4 := Lw.blk_cell C2 1; have q5 := Lw.blk_cell C2 2
  simp at q0 q1 q2 q3 q4 q5
  have HB := Lib.hid (Lw.balloc (Lw.bt (Lw.balloc hBW _) hb1) (.cells #[.int .i64 P, .int .i64 A, .int .i64 B] 79))
  clear BV C1 C2
  go_wp2_with fail
  refine (AD.out _).mono ?_
  rintro e w2 ⟨rfl, hb2⟩
  have D2 := (hb2.block (w.heap.size + 1 + 1 + 1) (by simp; omega)).trans C3.out
  have f1 := Lw.blk_free D2 0; have f2 := Lw.blk_free D2 1; have f3 := Lw.blk_free D2 2; have c1 := Lw.blk_cell D2 0; have c2 := Lw.blk_cell D2 1; have c3 := Lw.blk_cell D2 2
  simp at c1 c2 c3
  obtain ⟨r0, r1, r2⟩ := Lw.set3c (x := .int .i64 X2) (y := .int .i64 Y2) (z := .bool F2) D2
  have r0 := Lib.hid r0; have r1 := Lib.hid r1; have r2 := Lib.hid r2
  clear D2
  go_wp2_with fail
  refine bodyPost_ret (v := .tuple #[.agg #[.int .i64 X2, .int .i64 Y2, .bool F2], .int .i64 0]) (by simp only [results, Try.results35]; simp [go_sem, r0.out, r1.out, r2.out]) rfl ⟨rfl, Lw.bset3 (Lw.bt HB.out hb2) (by omega) _ _ _⟩
end Go.Proofs.Ytoignifimgioaaa

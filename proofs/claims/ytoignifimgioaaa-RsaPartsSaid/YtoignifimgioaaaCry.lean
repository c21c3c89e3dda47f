/- Curves: neg, Neg, SpotNeg, and the statements' spot. -/
import Derived.Test.YtoignifimgioaaaCrx
namespace Lw
open Go Go.RowKit
def negT (P : Int) (s : SpotT) : SpotT := ⟨s.X, (-s.Y) % P, s.F⟩
theorem spot_far {P A B X Y : Int} (h : spotB P A B X Y true = true) : X = 0 ∧ Y = 0 := by unfold spotB at h; simpa using h
theorem spot_in {P A B X Y : Int} (h : spotB P A B X Y false = true) : inP P X Y ∧ Y * Y % P = rhs P A B X := by unfold spotB at h; simpa using h
/-- as the reference says it -/
theorem neg_ref {P A B X Y : Int} {F : Bool} (_ : 0 < P) (h : spotB P A B X Y F = true) : ((F = true ∨ (F = false ∧ Y = 0)) ∧ negT P ⟨X, Y, F⟩ = ⟨X, Y, F⟩) ∨ (F = false ∧ ¬ Y = 0 ∧ 0 < Y ∧ Y < P ∧ negT P ⟨X, Y, F⟩ = ⟨X, P - Y, false⟩) := by
  unfold negT
  cases F with
  | true =>
    obtain ⟨rfl, rfl⟩ := spot_far h
    exact .inl ⟨.inl rfl, by simp⟩
  | false =>
    obtain ⟨⟨x0, x1, y0, y1⟩, _⟩ := spot_in h
    by_cases hy : Y = 0
    · subst hy; exact .inl ⟨.inr ⟨rfl, rfl⟩, by simp⟩
    · refine .inr ⟨rfl, hy, by omega, y1, ?_⟩
      have e : (-Y) % P = P - Y := by
        rw [← Int.add_mul_emod_self_left (-Y) P 1, Int.mul_one]
        exact (Int.emod_eq_of_lt (by omega) (by omega)).trans (by omega)
      simp [e]
/-- the code of one spot, as the statements ask it -/
def oneE (P A B : Int) (s : SpotT) : Int := sptE P A B [s]
theorem one_bad {P A B : Int} {s : SpotT} (h : ¬ crvE P A B = 0) : oneE P A B s = crvE P A B := spt_bad h
theorem one_form {P A B : Int} {s : SpotT} (h : crvE P A B = 0) (h2 : spotB P A B s.X s.Y s.F = false) : oneE P A B s = 4 := spt_form h (by simp [h2])
theorem one_ok {P A B : Int} {s : SpotT} (h : crvE P A B = 0) (h2 : spotB P A B s.X s.Y s.F = true) : oneE P A B s = 0 := spt_ok h (by simp [h2])
end Lw
set_option linter.unusedVariables false
set_option linter.unusedSimpArgs false
namespace Go.Proofs.Ytoignifimgioaaa
open Go.RowKit
set_option maxHeartbeats 2000000 in
theorem curve_neg (P A B X Y : Int) (F : Bool) (w : World) (h1 : 0 < P) (h2 : P ≤ 1009) (y0 : -1048576 ≤ Y) (y1 : Y ≤ 1048576) :
    Calls Try.prog 51 #[.agg #[.int .i64 P, .int .i64 A, .int .i64 B], .agg #[.int .i64 X, .int .i64 Y, .bool F]] w fun e w' => e = .returned (Lw.negT P ⟨X, Y, F⟩).v ∧ Below w.heap.size w w' := by
  obtain ⟨W, hW⟩ : ∃ W, ((w.alloc (.cells #[.int .i64 P, .int .i64 A, .int .i64 B] 79)).alloc (.cells #[.int .i64 X, .int .i64 Y, .bool F] 36)).alloc (.cells #[.int .i64 0, .int .i64 0, .bool false] 36) = W := ⟨_, rfl⟩
  have B0 := show W.heap[w.heap.size]? = some (.cells #[.int .i64 P, .int .i64 A, .int .i64 B] 79 (0, 0)) from hW ▸ Lw.blk_alloc (Lw.blk_alloc (Lw.blk_new _ _ _) _) _
  have B1 := Lib.hid (show W.heap[w.heap.size + 1]? = some (.cells #[.int .i64 X, .int .i64 Y, .bool F] 36 (0, 0)) from hW ▸ Lw.blk_alloc (Lw.blk_new' (by simp) _ _) _)
  have B2 := Lib.hid (show W.heap[w.heap.size + 1 + 1]? = some (.cells #[.int .i64 0, .int .i64 0, .bool false] 36 (0, 0)) from hW ▸ Lw.blk_new' (by simp) _ _)
  have l0 := Lw.blk_cell B0 0; have l1 := Lw.blk_cell B0 1; have l2 := Lw.blk_cell B0 2
  have k0 := Lw.blk_cell B1.out 0; have k1 := Lw.blk_cell B1.out 1; have k2 := Lw.blk_cell B1.out 2
  simp at l0 l1 l2 k0 k1 k2
  have hBW : Below w.heap.size w W := by rw [← hW]; exact Lw.balloc (Lw.balloc (Lw.balloc (Below.refl _ _) _) _) _
  have hWs : w.heap.size + 1 + 1 < W.heap.size := by rw [← hW]; simp
  have M := Lib.hid (fun w => curve_mod P A B (-Y) w h1 h2)
  have HW := Lib.hid hW
  clear hW B0
  go_enter Try.func51, Try.ntmps51
  go_wp2_with fail
  (try rw [HW.out])
  refine (M.out _).mono ?_
  rintro e w1 ⟨rfl, hb1⟩
  have C1 := (hb1.block (w.heap.size + 1) (by omega)).trans B1.out
  have C2 := (hb1.block (w.heap.size + 1 + 1) (by omega)).trans B2.out
  have f1 := Lw.blk_free C1 1
  obtain ⟨v, hv⟩ : ∃ v, (-Y) % P = v := ⟨_, rfl⟩
  have D1 := Lw.blk_set_same C1 1 (.int .i64 v)
  have D2 := Lw.blk_set_other C2 (by omega : w.heap.size + 1 + 1 ≠ w.heap.size + 1) 1 (.int .i64 v)
  have c1 := Lw.blk_cell C1 1
  have d0 := Lw.blk_cell D1 0; have d1 := Lw.blk_cell D1 1; have d2 := Lw.blk_cell D1 2
  have e0 := Lw.blk_cell D2 0; have e1 := Lw.blk_cell D2 1; have e2 := Lw.blk_cell D2 2
  have g0 := Lw.blk_free D2 0; have g1 := Lw.blk_free D2 1; have g2 := Lw.blk_free D2 2
  simp at c1 d0 d1 d2 e0 e1 e2
  have N : Hid ((Lw.negT P ⟨X, Y, F⟩).v = .agg #[.int .i64 X, .int .i64 v, .bool F]) := by rw [← hv]; exact rfl
  rw [hv]
  have HB := Lib.hid (Lw.bset (Lw.bt hBW hb1) (by omega : w.heap.size ≤ w.heap.size + 1) (p := ⟨w.heap.size + 1, 1, none⟩) (.int .i64 v))
  obtain ⟨V, hV⟩ : ∃ V, w1.setCell ⟨w.heap.size + 1, 1, none⟩ (.int .i64 v) = V := ⟨_, rfl⟩
  rw [hV] at D1 D2 d0 d1 d2 e0 e1 e2 g0 g1 g2 HB
  obtain ⟨r0, r1, r2⟩ := Lw.set3c (x := .int .i64 X) (y := .int .i64 v) (z := .bool F) D2
  have r0 := Lib.hid r0; have r1 := Lib.hid r1; have r2 := Lib.hid r2
  clear D1 D2 C1 C2 B1 B2 hv
  go_wp2_with fail
  (try rw [hV])
  refine bodyPost_ret (v := .agg #[.int .i64 X, .int .i64 v, .bool F]) (by simp only [results, Try.results51]; simp [go_sem, r0.out, r1.out, r2.out]) rfl ⟨by rw [N.out], Lw.bset3 HB.out (by omega) _ _ _⟩
set_option maxHeartbeats 2000000 in
theorem curve_Neg_bad (P A B X Y : Int) (F : Bool) (w : World) (h : ¬ Lw.oneE P A B ⟨X, Y, F⟩ = 0) :
    Calls Try.prog 22 #[.agg #[.int .i64 P, .int .i64 A, .int .i64 B], .agg #[.int .i64 X, .int .i64 Y, .bool F]] w fun e w' => e = .returned (.tuple #[.agg #[.int .i64 0, .int .i64 0, .bool false], .int .i64 (Lw.oneE P A B ⟨X, Y, F⟩)]) ∧ Below w.heap.size w w' := by
  have S : ∀ (V : Option Addr) (w : World), Lw.Rd w 3 V 1 (Lw.spotsV [⟨X, Y, F⟩]) → Calls Try.prog 50 #[.agg #[.int .i64 P, .int .i64 A, .int .i64 B], .slice V 1 1] w fun e w' => e = .returned (.tuple #[.agg #[.int .i64 0, .int .i64 0, .int .i64 0], .int .i64 (Lw.oneE P A B ⟨X, Y, F⟩)]) ∧ Below w.heap.size w w' := by
    intro V w R
    by_cases hc : Lw.crvE P A B = 0
    · have := curve_spots_ok P A B V 1 1 [⟨X, Y, F⟩] w R (by omega) hc
      have e : Lw.sptV P A B [⟨X, Y, F⟩] = .agg #[.int .i64 0, .int .i64 0, .int .i64 0] := if_neg h
      rw [e] at this
      exact this
    · exact curve_spots_bad P A B V 1 1 [⟨X, Y, F⟩] w hc
  replace S := Lib.hid S
  have h1 : (Lw.oneE P A B ⟨X, Y, F⟩ == 0) = false := by simpa using h
  obtain ⟨E, hE⟩ : ∃ E, Lw.oneE P A B ⟨X, Y, F⟩ = E := ⟨_, rfl⟩
  rw [hE] at S h1
  rw [hE]
  clear hE h
  obtain ⟨W, hW⟩ : ∃ W, ((w.alloc (.cells #[.int .i64 P, .int .i64 A, .int .i64 B] 32)).alloc (.cells #[.int .i64 X, .int .i64 Y, .bool F] 36)).alloc (.cells #[.int .i64 0, .int .i64 0, .bool false] 36) = W := ⟨_, rfl⟩
  have B0 := show W.heap[w.heap.size]? = some (.cells #[.int .i64 P, .int .i64 A, .int .i64 B] 32 (0, 0)) from hW ▸ Lw.blk_alloc (Lw.blk_alloc (Lw.blk_new _ _ _) _) _
  have B1 := Lib.hid (show W.heap[w.heap.size + 1]? = some (.cells #[.int .i64 X, .int .i64 Y, .bool F] 36 (0, 0)) from hW ▸ Lw.blk_alloc (Lw.blk_new' (by simp) _ _) _)
  have B2 := Lib.hid (show W.heap[w.heap.size + 1 + 1]? = some (.cells #[.int .i64 0, .int .i64 0, .bool false] 36 (0, 0)) from hW ▸ Lw.blk_new' (by simp) _ _)
  have hBW : Below w.heap.size w W := by rw [← hW]; exact Lw.balloc (Lw.balloc (Lw.balloc (Below.refl _ _) _) _) _
  have hWs : w.heap.size + 1 + 1 < W.heap.size := by rw [← hW]; simp
  have HW := Lib.hid hW
  clear hW B0
  go_enter Try.func22, Try.ntmps22
  go_wp2_with fail
  rw [HW.out]
  have BV := Lw.blk_new' (W := W) (b := w.heap.size + 1 + 1 + 1) (by rw [← HW.out]; simp) #[.int .i64 X, .int .i64 Y, .bool F] 36
  refine (S.out _ _ (Lw.Rd.lit BV rfl rfl)).mono ?_
  rintro e w1 ⟨rfl, hb1⟩
  have C2 := (Lw.blk_alloc ((hb1.block (w.heap.size + 1 + 1) (by simp; omega)).trans (Lw.blk_alloc B2.out _)) (.cells #[.int .i64 0, .int .i64 0, .int .i64 0] 79))
  have f1 := Lw.blk_free C2 0; have f2 := Lw.blk_free C2 1; have f3 := Lw.blk_free C2 2; have c1 := Lw.blk_cell C2 0; have c2 := Lw.blk_cell C2 1; have c3 := Lw.blk_cell C2 2
  simp at c1 c2 c3 f1 f2 f3
  obtain ⟨r0, r1, r2⟩ := Lw.set3c (x := .int .i64 0) (y := .int .i64 0) (z := .bool false) C2
  have r0 := Lib.hid r0; have r1 := Lib.hid r1; have r2 := Lib.hid r2
  have HB := Lib.hid (Lw.balloc (Lw.bt (Lw.balloc hBW _) hb1) (.cells #[.int .i64 0, .int .i64 0, .int .i64 0] 79))
  clear BV C2
  go_wp2_with fail
  refine bodyPost_ret (v := .tuple #[.agg #[.int .i64 0, .int .i64 0, .bool false], .int .i64 E]) (by simp only [results, Try.results22]; simp [go_sem, r0.out, r1.out, r2.out]) rfl ⟨rfl, Lw.bset3 HB.out (by omega) _ _ _⟩
set_option maxHeartbeats 2000000 in
theorem curve_Neg_ok (P A B X Y : Int) (F : Bool) (w : World) (hc : Lw.crvE P A B = 0) (h : Lw.spotB P A B X Y F = true) :
    Calls Try.prog 22 #[.agg #[.int .i64 P, .int .i64 A, .int .i64 B], .agg #[.int .i64 X, .int .i64 Y, .bool F]] w fun e w' => e = .returned (.tuple #[(Lw.negT P ⟨X, Y, F⟩).v, .int .i64 0]) ∧ Below w.heap.size w w' := by
  have S : ∀ (V : Option Addr) (w : World), Lw.Rd w 3 V 1 (Lw.spotsV [⟨X, Y, F⟩]) → Calls Try.prog 50 #[.agg #[.int .i64 P, .int .i64 A, .int .i64 B], .slice V 1 1] w fun e w' => e = .returned (.tuple #[.agg #[.int .i64 P, .int .i64 A, .int .i64 B], .int .i64 0]) ∧ Below w.heap.size w w' := by
    intro V w R
    have := curve_spots_ok P A B V 1 1 [⟨X, Y, F⟩] w R (by omega) hc
    rw [Lw.spt_okV hc (by simp [h])] at this
    exact this
  replace S := Lib.hid S
  have HR := (Lw.of_crv hc).1
  have hY : 0 ≤ Y ∧ Y ≤ 1009 := by
    cases F with
    | true => have := Lw.spot_far h; omega
    | false => have := (Lw.spot_in h).1; unfold Lw.inP at this; have := HR.2.1; omega
  have NG := Lib.hid (fun w => curve_neg P A B X Y F w (by have := HR.1; omega) HR.2.1 (by omega) (by omega))
  obtain ⟨X', hX'⟩ : ∃ v, (Lw.negT P ⟨X, Y, F⟩).X = v := ⟨_, rfl⟩
  obtain ⟨Y', hY'⟩ : ∃ v, (Lw.negT P ⟨X, Y, F⟩).Y = v := ⟨_, rfl⟩
  obtain ⟨F', hF'⟩ : ∃ v, (Lw.negT P ⟨X, Y, F⟩).F = v := ⟨_, rfl⟩
  have NV : (Lw.negT P ⟨X, Y, F⟩).v = .agg #[.int .i64 X', .int .i64 Y', .bool F'] := by unfold Lw.SpotT.v; rw [hX', hY', hF']
  rw [NV] at NG
  rw [NV]
  clear hX' hY' hF' NV HR hc h hY
  obtain ⟨W, hW⟩ : ∃ W, ((w.alloc (.cells #[.int .i64 P, .int .i64 A, .int .i64 B] 32)).alloc (.cells #[.int .i64 X, .int .i64 Y, .bool F] 36)).alloc (.cells #[.int .i64 0, .int .i64 0, .bool false] 36) = W := ⟨_, rfl⟩
  have B1 := Lib.hid (show W.heap[w.heap.size + 1]? = some (.cells #[.int .i64 X, .int .i64 Y, .bool F] 36 (0, 0)) from hW ▸ Lw.blk_alloc (Lw.blk_new' (by simp) _ _) _)
  have B2 := Lib.hid (show W.heap[w.heap.size + 1 + 1]? = some (.cells #[.int .i64 0, .int .i64 0, .bool false] 36 (0, 0)) from hW ▸ Lw.blk_new' (by simp) _ _)
  have hBW : Below w.heap.size w W := by rw [← hW]; exact Lw.balloc (Lw.balloc (Lw.balloc (Below.refl _ _) _) _) _
  have hWs : w.heap.size + 1 + 1 < W.heap.size := by rw [← hW]; simp
  have HW := Lib.hid hW
  clear hW
  go_enter Try.func22, Try.ntmps22
  go_wp2_with fail
  rw [HW.out]
  have BV := Lw.blk_new' (W := W) (b := w.heap.size + 1 + 1 + 1) (by rw [← HW.out]; simp) #[.int .i64 X, .int .i64 Y, .bool F] 36
  refine (S.out _ _ (Lw.Rd.lit BV rfl rfl)).mono ?_
  rintro e w1 ⟨rfl, hb1⟩
  have C1 := (hb1.block (w.heap.size + 1) (by simp; omega)).trans (Lw.blk_alloc B1.out _)
  have C2 := Lib.hid (Lw.blk_alloc ((hb1.block (w.heap.size + 1 + 1) (by simp; omega)).trans (Lw.blk_alloc B2.out _)) (.cells #[.int .i64 P, .int .i64 A, .int .i64 B] 79))
  have hz1 := hb1.size
  simp at hz1
  have hy1 : w.heap.size + 1 < w1.heap.size := by omega
  have k0 := Lw.blk_cell C1 0; have k1 := Lw.blk_cell C1 1; have k2 := Lw.blk_cell C1 2
  simp at k0 k1 k2
  have HB := Lib.hid (Lw.balloc (Lw.bt (Lw.balloc hBW _) hb1) (.cells #[.int .i64 P, .int .i64 A, .int .i64 B] 79))
  clear BV C1
  go_wp2_with fail
  refine (NG.out _).mono ?_
  rintro e w2 ⟨rfl, hb2⟩
  have D2 := (hb2.block (w.heap.size + 1 + 1) (by simp; omega)).trans C2.out
  have f1 := Lw.blk_free D2 0; have f2 := Lw.blk_free D2 1; have f3 := Lw.blk_free D2 2; have c1 := Lw.blk_cell D2 0; have c2 := Lw.blk_cell D2 1; have c3 := Lw.blk_cell D2 2
  simp at c1 c2 c3
  obtain ⟨r0, r1, r2⟩ := Lw.set3c (x := .int .i64 X') (y := .int .i64 Y') (z := .bool F') D2
  have r0 := Lib.hid r0; have r1 := Lib.hid r1; have r2 := Lib.hid r2
  clear D2
  go_wp2_with fail
  refine bodyPost_ret (v := .tuple #[.agg #[.int .i64 X', .int .i64 Y', .bool F'], .int .i64 0]) (by simp only [results, Try.results22]; simp [go_sem, r0.out, r1.out, r2.out]) rfl ⟨rfl, Lw.bset3 (Lw.bt HB.out hb2) (by omega) _ _ _⟩
set_option maxHeartbeats 2000000 in
theorem ref_SpotNeg (P A B X Y : Int) (F : Bool) (w : World) (hc : Lw.crvR P A B) (h : Lw.spotB P A B X Y F = true) :
    Calls Try.prog 24 #[.agg #[.int .i64 P, .int .i64 A, .int .i64 B], .agg #[.int .i64 X, .int .i64 Y, .bool F]] w fun e w' => e = .returned (Lw.negT P ⟨X, Y, F⟩).v ∧ Below w.heap.size w w' := by
  obtain ⟨p1, p2, -⟩ := hc
  rcases Lw.neg_ref (by omega : 0 < P) h with ⟨hF, e⟩ | ⟨rfl, hy, y0, y1, e⟩
  · have NV : Hid ((Lw.negT P ⟨X, Y, F⟩).v = .agg #[.int .i64 X, .int .i64 Y, .bool F]) := by rw [e]; exact rfl
    clear e h
    rcases hF with rfl | ⟨rfl, rfl⟩
    all_goals
      go_enter Try.func24, Try.ntmps24
      go_wp2_with fail
      refine bodyPost_ret (v := _) (by simp only [results, Try.results24]; simp [go_sem]; rfl) rfl ⟨by rw [NV.out], by (repeat (first | exact Below.refl _ _ | refine Lw.bt ?_ (by assumption) | refine Lw.balloc ?_ _ | refine Lw.bdrewN ?_ _ | refine Below.drew ?_ | refine Lw.bset ?_ (by first | (simp; done) | (simp; omega) | omega) _))⟩
  · have NV : Hid ((Lw.negT P ⟨X, Y, false⟩).v = .agg #[.int .i64 X, .int .i64 (P - Y), .bool false]) := by rw [e]; exact rfl
    have hy0 : (Y == 0) = false := by simpa using hy
    clear e h
    go_enter Try.func24, Try.ntmps24
    go_wp2_with fail
    refine bodyPost_ret (v := .agg #[.int .i64 X, .int .i64 (P - Y), .bool false]) (by simp only [results, Try.results24]; simp [go_sem]) rfl ⟨by rw [NV.out], by (repeat (first | exact Below.refl _ _ | refine Lw.bt ?_ (by assumption) | refine Lw.balloc ?_ _ | refine Lw.bdrewN ?_ _ | refine Below.drew ?_ | refine Lw.bset ?_ (by first | (simp; done) | (simp; omega) | omega) _))⟩
end Go.Proofs.Ytoignifimgioaaa

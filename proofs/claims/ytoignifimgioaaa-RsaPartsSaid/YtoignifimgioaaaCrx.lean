/- Curves: curve.spots; curve.neg, curve.Neg, the reference's SpotNeg; the statements' spot. -/
import Derived.Test.YtoignifimgioaaaCrw
import Derived.Test.YtoignifimgioaaaApp
namespace Lw
open Go Go.RowKit
structure SpotT where
  X : Int
  Y : Int
  F : Bool
def SpotT.cs (s : SpotT) : List Value := [.int .i64 s.X, .int .i64 s.Y, .bool s.F]
def SpotT.v (s : SpotT) : Value := .agg #[.int .i64 s.X, .int .i64 s.Y, .bool s.F]
def spotsV (l : List SpotT) : List Value := l.flatMap SpotT.cs
theorem spotsV_length (l : List SpotT) : (spotsV l).length = l.length * 3 := by
  induction l with
  | nil => rfl
  | cons x l ih => simp only [spotsV, List.flatMap_cons, List.length_append, List.length_cons, SpotT.cs, List.length_nil] at *; omega
theorem spotsV_get : ∀ {l : List SpotT} {i : Nat} (h : i < l.length), (spotsV l)[i * 3 + 0]? = some (.int .i64 l[i].X) ∧ (spotsV l)[i * 3 + 1]? = some (.int .i64 l[i].Y) ∧ (spotsV l)[i * 3 + 2]? = some (.bool l[i].F)
  | x :: l, 0, _ => by simp [spotsV, SpotT.cs]
  | x :: l, i + 1, h => by
    have ih := spotsV_get (l := l) (i := i) (by simpa using h)
    have e : spotsV (x :: l) = x.cs ++ spotsV l := by simp [spotsV]
    have hl : x.cs.length = 3 := rfl
    rw [e, List.getElem?_append_right (by omega), List.getElem?_append_right (by omega), List.getElem?_append_right (by omega), hl]
    simp only [List.getElem_cons_succ]
    rw [show (i + 1) * 3 + 0 - 3 = i * 3 + 0 from by omega, show (i + 1) * 3 + 1 - 3 = i * 3 + 1 from by omega, show (i + 1) * 3 + 2 - 3 = i * 3 + 2 from by omega]
    exact ih
/-- the code of a curve and spots -/
def sptE (P A B : Int) (l : List SpotT) : Int := if crvE P A B = 0 then (if l.all (fun s => spotB P A B s.X s.Y s.F) then 0 else 4) else crvE P A B
theorem spt_bad {P A B : Int} {l : List SpotT} (h : ¬ crvE P A B = 0) : sptE P A B l = crvE P A B := if_neg h
theorem spt_form {P A B : Int} {l : List SpotT} (h : crvE P A B = 0) (h2 : l.all (fun s => spotB P A B s.X s.Y s.F) = false) : sptE P A B l = 4 := by unfold sptE; rw [if_pos h, if_neg (by simp [h2])]
theorem spt_ok {P A B : Int} {l : List SpotT} (h : crvE P A B = 0) (h2 : l.all (fun s => spotB P A B s.X s.Y s.F) = true) : sptE P A B l = 0 := by unfold sptE; rw [if_pos h, if_pos h2]
def sptV (P A B : Int) (l : List SpotT) : Value := if sptE P A B l = 0 then .agg #[.int .i64 P, .int .i64 A, .int .i64 B] else .agg #[.int .i64 0, .int .i64 0, .int .i64 0]
theorem spt_formV {P A B : Int} {l : List SpotT} (h : crvE P A B = 0) (h2 : l.all (fun s => spotB P A B s.X s.Y s.F) = false) : Ending.returned (.tuple #[sptV P A B l, .int .i64 (sptE P A B l)]) = .returned (.tuple #[.agg #[.int .i64 0, .int .i64 0, .int .i64 0], .int .i64 4]) := by unfold sptV; rw [spt_form h h2]; rfl
theorem spt_okV {P A B : Int} {l : List SpotT} (h : crvE P A B = 0) (h2 : l.all (fun s => spotB P A B s.X s.Y s.F) = true) : Ending.returned (.tuple #[sptV P A B l, .int .i64 (sptE P A B l)]) = .returned (.tuple #[.agg #[.int .i64 P, .int .i64 A, .int .i64 B], .int .i64 0]) := by unfold sptV; rw [spt_ok h h2]; rfl
theorem set3 {W : World} {b : Nat} {c0 c1 c2 x y z : Value} {t : TypeId} (h : W.heap[b]? = some (.cells #[c0, c1, c2] t (0, 0))) :
    (((W.setCell ⟨b, 0, none⟩ x).setCell ⟨b, 1, none⟩ y).setCell ⟨b, 2, none⟩ z).heap[b]? = some (.cells #[x, y, z] t (0, 0)) := by
  have h1 := blk_set_same h 0 x
  have h2 := blk_set_same h1 1 y
  have h3 := blk_set_same h2 2 z
  simpa using h3
theorem set3c {W : World} {b : Nat} {c0 c1 c2 x y z : Value} {t : TypeId} (h : W.heap[b]? = some (.cells #[c0, c1, c2] t (0, 0))) :
    (((W.setCell ⟨b, 0, none⟩ x).setCell ⟨b, 1, none⟩ y).setCell ⟨b, 2, none⟩ z).cell? ⟨b, 0, none⟩ = some x ∧ (((W.setCell ⟨b, 0, none⟩ x).setCell ⟨b, 1, none⟩ y).setCell ⟨b, 2, none⟩ z).cell? ⟨b, 1, none⟩ = some y ∧ (((W.setCell ⟨b, 0, none⟩ x).setCell ⟨b, 1, none⟩ y).setCell ⟨b, 2, none⟩ z).cell? ⟨b, 2, none⟩ = some z := by
  have h3 := set3 (x := x) (y := y) (z := z) h
  exact ⟨by have := blk_cell h3 0; simpa using this, by have := blk_cell h3 1; simpa using this, by have := blk_cell h3 2; simpa using this⟩
theorem bset3 {w W : World} {b : Nat} (h : Below w.heap.size w W) (hb : w.heap.size ≤ b) (x y z : Value) : Below w.heap.size w (((W.setCell ⟨b, 0, none⟩ x).setCell ⟨b, 1, none⟩ y).setCell ⟨b, 2, none⟩ z) := bset (bset (bset h hb _) hb _) hb _
theorem all_take' {α : Type} {p : α → Bool} {T : List α} {k : Nat} (h : k < T.length) (h1 : (T.take k).all p = true) (h2 : p T[k] = true) : (T.take (k + 1)).all p = true := by
  rw [List.take_succ_eq_append_getElem h, List.all_append, h1]; simp [h2]
theorem all_at {α : Type} {p : α → Bool} {T : List α} {k : Nat} (h : k < T.length) (h2 : p T[k] = false) : T.all p = false := by
  rw [Bool.eq_false_iff]; intro e
  have := List.all_eq_true.1 e _ (List.getElem_mem h)
  rw [h2] at this; cases this
end Lw
set_option linter.unusedVariables false
set_option linter.unusedSimpArgs false
namespace Go.Proofs.Ytoignifimgioaaa
open Go.RowKit
set_option maxHeartbeats 2000000 in
theorem curve_spots_bad (P A B : Int) (V : Option Addr) (n c : Nat) (l : List Lw.SpotT) (w : World) (h : ¬ Lw.crvE P A B = 0) :
    Calls Try.prog 50 #[.agg #[.int .i64 P, .int .i64 A, .int .i64 B], .slice V n c] w fun e w' => e = .returned (.tuple #[.agg #[.int .i64 0, .int .i64 0, .int .i64 0], .int .i64 (Lw.sptE P A B l)]) ∧ Below w.heap.size w w' := by
  have E := Lib.hid (Lw.spt_bad (l := l) h)
  have X := Lib.hid (fun w => curve_Check P A B w)
  have h1 : (Lw.crvE P A B == 0) = false := by simpa using h
  clear h
  obtain ⟨W, hW⟩ : ∃ W, (w.alloc (.cells #[.int .i64 P, .int .i64 A, .int .i64 B] 32)).alloc (.cells #[.int .i64 0, .int .i64 0, .int .i64 0] 79) = W := ⟨_, rfl⟩
  have B1 := Lib.hid (show W.heap[w.heap.size + 1]? = some (.cells #[.int .i64 0, .int .i64 0, .int .i64 0] 79 (0, 0)) from hW ▸ Lw.blk_new' (by simp) _ _)
  have hBW : Below w.heap.size w W := by rw [← hW]; exact Lw.balloc (Lw.balloc (Below.refl _ _) _) _
  have hWs : w.heap.size + 1 < W.heap.size := by rw [← hW]; simp
  have HW := Lib.hid hW
  clear hW
  go_enter Try.func50, Try.ntmps50
  go_wp2_with (go_at_call 18; rw [HW.out]; (with_reducible refine (X.out _).mono ?_); rintro e w1 ⟨rfl, hb1⟩; have B2 := (hb1.block _ hWs).trans B1.out; have f1 := Lw.blk_free B2 0; have f2 := Lw.blk_free B2 1; have f3 := Lw.blk_free B2 2; have c1 := Lw.blk_cell B2 0; have c2 := Lw.blk_cell B2 1; have c3 := Lw.blk_cell B2 2; simp at c1 c2 c3)
  obtain ⟨r0, r1, r2⟩ := Lw.set3c (x := .int .i64 0) (y := .int .i64 0) (z := .int .i64 0) B2
  refine bodyPost_ret (v := .tuple #[.agg #[.int .i64 0, .int .i64 0, .int .i64 0], .int .i64 (Lw.sptE P A B l)]) (by rw [E.out]; simp only [results, Try.results50]; simp [go_sem, r0, r1, r2]) rfl ⟨rfl, Lw.bset3 (Lw.bt hBW hb1) (by omega) _ _ _⟩
set_option maxHeartbeats 2000000 in
theorem curve_spots_ok (P A B : Int) (V : Option Addr) (n c : Nat) (l : List Lw.SpotT) (w : World) (R : Lw.Rd w 3 V n (Lw.spotsV l)) (hn : n ≤ 1048576) (h : Lw.crvE P A B = 0) :
    Calls Try.prog 50 #[.agg #[.int .i64 P, .int .i64 A, .int .i64 B], .slice V n c] w fun e w' => e = .returned (.tuple #[Lw.sptV P A B l, .int .i64 (Lw.sptE P A B l)]) ∧ Below w.heap.size w w' := by
  have X := fun w => curve_Check P A B w
  rw [h] at X
  replace X := Lib.hid X
  have HC := (Lw.of_crv h).1
  have EF := Lib.hid (fun h2 => Lw.spt_formV (l := l) h h2)
  have EO := Lib.hid (fun h2 => Lw.spt_okV (l := l) h h2)
  have HS := Lib.hid (fun X Y F w => curve_has P A B X Y F w HC)
  have L := Lib.hid (show l.length = n by have := R.1; rw [Lw.spotsV_length] at this; omega)
  have R := Lib.hid R
  clear h HC
  obtain ⟨W, hW⟩ : ∃ W, (w.alloc (.cells #[.int .i64 P, .int .i64 A, .int .i64 B] 32)).alloc (.cells #[.int .i64 0, .int .i64 0, .int .i64 0] 79) = W := ⟨_, rfl⟩
  have B0 := Lib.hid (show W.heap[w.heap.size]? = some (.cells #[.int .i64 P, .int .i64 A, .int .i64 B] 32 (0, 0)) from hW ▸ Lw.blk_alloc (Lw.blk_new _ _ _) _)
  have B1 := Lib.hid (show W.heap[w.heap.size + 1]? = some (.cells #[.int .i64 0, .int .i64 0, .int .i64 0] 79 (0, 0)) from hW ▸ Lw.blk_new' (by simp) _ _)
  have hBW : Below w.heap.size w W := by rw [← hW]; exact Lw.balloc (Lw.balloc (Below.refl _ _) _) _
  have hWs : w.heap.size + 1 < W.heap.size := by rw [← hW]; simp
  have l0 := Lw.blk_cell B0.out 0; have l1 := Lw.blk_cell B0.out 1; have l2 := Lw.blk_cell B0.out 2
  simp at l0 l1 l2
  have HW := Lib.hid hW
  clear hW
  go_enter Try.func50, Try.ntmps50
  go_wp2_with (go_at_call 18; rw [HW.out]; (with_reducible refine (X.out _).mono ?_); rintro e w1 ⟨rfl, hb1⟩)
  clear l0 l1 l2 HW
  go_loopw [8, 17] (fun p i wr => ∃ k : Nat, k ≤ n ∧ i = .int .i64 (k : Int) ∧ Hid ((l.take k).all (fun s => Lw.spotB P A B s.X s.Y s.F) = true) ∧ Below W.heap.size W wr) (fun _ i _ => n - (intOf i).toNat)
  case atStart => exact ⟨0, by omega, rfl, rfl, hb1⟩
  case round =>
    obtain ⟨k, k1, rfl, TK, hB⟩ := hrel
    have hBr := hBW.trans (hB.mono hBW.size)
    have hzr := hB.size
    by_cases hlt : k < n
    · have hl : k < l.length := by rw [L.out]; exact hlt
      obtain ⟨g0, g1, g2⟩ := Lw.spotsV_get hl
      obtain ⟨ad, rfl, had, c0, c1, c2⟩ := (R.out.below (Nat.le_refl _) hBr).at3 hlt g0 g1 g2
      have N := Lib.hid (Lw.all_take' (p := fun s : Lw.SpotT => Lw.spotB P A B s.X s.Y s.F) hl TK.out)
      have D := Lib.hid (Lw.all_at (p := fun s : Lw.SpotT => Lw.spotB P A B s.X s.Y s.F) hl)
      obtain ⟨⟨X0, Y0, F0⟩, hs⟩ : ∃ s, l[k] = s := ⟨_, rfl⟩
      rw [hs] at c0 c1 c2 N D
      simp only at c0 c1 c2 N D
      clear hs g0 g1 g2
      have B2 := (hB.block _ (by omega)).trans B0.out
      have l0 := Lw.blk_cell B2 0; have l1 := Lw.blk_cell B2 1; have l2 := Lw.blk_cell B2 2
      simp at l0 l1 l2
      clear B2
      have B3 := Lib.hid ((hB.block _ hWs).trans B1.out)
      have hz0 : w.heap.size < wr.heap.size := by omega
      have hz1 : w.heap.size + 1 < wr.heap.size := by omega
      rcases hb : Lw.spotB P A B X0 Y0 F0 with _ | _
      · have C := fun w => HS.out X0 Y0 F0 w
        rw [hb] at C
        replace C := Lib.hid C
        have E := Lib.hid (EF.out (D.out hb))
        clear hb N D
        go_wp2_with (go_at_call 71; (with_reducible refine (C.out _).mono ?_); rintro e w5 ⟨rfl, hb5⟩; have B4 := (hb5.block (w.heap.size + 1) (by simp; omega)).trans (Lw.blk_alloc B3.out _); have f1 := Lw.blk_free B4 0; have f2 := Lw.blk_free B4 1; have f3 := Lw.blk_free B4 2; have c1 := Lw.blk_cell B4 0; have c2 := Lw.blk_cell B4 1; have c3 := Lw.blk_cell B4 2; simp at c1 c2 c3)
        obtain ⟨r0, r1, r2⟩ := Lw.set3c (x := .int .i64 0) (y := .int .i64 0) (z := .int .i64 0) B4
        refine bodyPost_ret (v := .tuple #[.agg #[.int .i64 0, .int .i64 0, .int .i64 0], .int .i64 4]) (by simp only [results, Try.results50]; simp [go_sem, r0, r1, r2]) rfl ⟨E.out.symm, Lw.bset3 (Lw.bt (Lw.balloc hBr _) hb5) (by omega) _ _ _⟩
      · have C := fun w => HS.out X0 Y0 F0 w
        rw [hb] at C
        replace C := Lib.hid C
        have N1 := Lib.hid (N.out hb)
        clear hb N D
        go_wp2_with (go_at_call 71; (with_reducible refine (C.out _).mono ?_); rintro e w5 ⟨rfl, hb5⟩)
        go_roundw
        case rel => exact ⟨k + 1, by omega, by go_num, N1, Lw.bt (Lw.balloc hB _) hb5⟩
        case measure => simp [intOf]; omega
    · have hk : l.take k = l := List.take_of_length_le (by rw [L.out]; omega)
      have T0 := TK.out
      rw [hk] at T0
      have E := Lib.hid (EO.out T0)
      clear hk T0 TK
      have B2 := (hB.block _ (by omega)).trans B0.out
      have l0 := Lw.blk_cell B2 0; have l1 := Lw.blk_cell B2 1; have l2 := Lw.blk_cell B2 2
      have B4 := (hB.block _ hWs).trans B1.out
      have f1 := Lw.blk_free B4 0; have f2 := Lw.blk_free B4 1; have f3 := Lw.blk_free B4 2; have c1 := Lw.blk_cell B4 0; have c2 := Lw.blk_cell B4 1; have c3 := Lw.blk_cell B4 2
      simp at c1 c2 c3 l0 l1 l2
      clear B2
      go_wp2
      obtain ⟨r0, r1, r2⟩ := Lw.set3c (x := .int .i64 P) (y := .int .i64 A) (z := .int .i64 B) B4
      refine bodyPost_ret (v := .tuple #[.agg #[.int .i64 P, .int .i64 A, .int .i64 B], .int .i64 0]) (by simp only [results, Try.results50]; simp [go_sem, r0, r1, r2]) rfl ⟨E.out.symm, Lw.bset3 hBr (by omega) _ _ _⟩
end Go.Proofs.Ytoignifimgioaaa

/- field.elements, field.Add, the reference's FieldAdd, the statements' element. -/
import Derived.Test.YtjhjppaabmbbbaaFda
namespace Lw
open Go Go.RowKit
/-- the code of an element -/
noncomputable def elmE (p : Int) (f : List Int) (a : Int) : Int := if fldE p f = 0 then (if 0 ≤ a ∧ a < p ^ (f.length - 1) then 0 else 2) else fldE p f
theorem elm_bad {p : Int} {f : List Int} {a : Int} (h : ¬ fldE p f = 0) : elmE p f a = fldE p f := if_neg h
theorem elm_in {p : Int} {f : List Int} {a : Int} (h : fldE p f = 0) (h1 : 0 ≤ a) (h2 : a < p ^ (f.length - 1)) : elmE p f a = 0 := by unfold elmE; rw [if_pos h, if_pos ⟨h1, h2⟩]
theorem elm_out {p : Int} {f : List Int} {a : Int} (h : fldE p f = 0) (h1 : ¬ (0 ≤ a ∧ a < p ^ (f.length - 1))) : elmE p f a = 2 := by unfold elmE; rw [if_pos h, if_neg h1]
end Lw
set_option linter.unusedVariables false
set_option linter.unusedSimpArgs false
namespace Go.Proofs.Ytjhjppaabmbbbaa
open Go.RowKit
theorem law_element (p : Int) (A : Option Addr) (n c : Nat) (f : List Int) (a : Int) (w : World) (RA : Lw.Rd w 1 A n (Lw.intsV .i64 f)) :
    Calls Try.prog 47 #[.int .i64 p, .slice A n c, .int .i64 a] w fun e w' => e = .returned (.int .i64 (Lw.elmE p f a)) ∧ Below w.heap.size w w' := by
  have X := ref_FieldCheck p A n c f w RA
  have la : f.length = n := by have := RA.1; simpa [Lw.intsV] using this
  clear RA
  by_cases h : Lw.fldE p f = 0
  · obtain ⟨h1, h2, h3, h4, h5⟩ := Lw.of_fld h
    obtain ⟨p1, p2, pp, l1, b1, z1⟩ := Lw.poly_facts h1
    have FSq := fun W => ref_FieldSize p A n c W p1 p2 (by omega) (by omega)
    have SZ : Lw.sizL p n = p ^ (n - 1) := by unfold Lw.sizL; rw [if_neg (by rw [← la]; omega)]
    have EI := Lib.hid (Lw.elm_in (a := a) h)
    have EO := Lib.hid (Lw.elm_out (a := a) h)
    rw [la] at EI EO
    rw [SZ] at FSq
    rw [h] at X
    generalize Lw.elmE p f a = E at *
    obtain ⟨S, hS⟩ : ∃ z, p ^ (n - 1) = z := ⟨_, rfl⟩
    rw [hS] at FSq EI EO
    replace X := Lib.hid X
    replace FSq := Lib.hid FSq
    clear h h1 h2 h3 h4 h5 b1 z1 SZ hS
    rcases (by omega : a < 0 ∨ (0 ≤ a ∧ S ≤ a) ∨ (0 ≤ a ∧ a < S)) with h0 | ⟨h0, h1⟩ | ⟨h0, h1⟩
    · have EE : Hid (E = 2) := EO.out (by omega)
      clear EI EO
      go_enter Try.func47, Try.ntmps47
      go_wp2_with (first | (go_at_call 50; (with_reducible refine X.out.mono ?_); rintro e w1 ⟨rfl, hb1⟩) | (go_at_call 95; (with_reducible refine (FSq.out _).mono ?_); rintro e w' ⟨rfl, rfl⟩))
      go_ret
      exact ⟨Lw.ret_int EE.out.symm, hb1⟩
    · have EE : Hid (E = 2) := EO.out (by omega)
      clear EI EO
      go_enter Try.func47, Try.ntmps47
      go_wp2_with (first | (go_at_call 50; (with_reducible refine X.out.mono ?_); rintro e w1 ⟨rfl, hb1⟩) | (go_at_call 95; (with_reducible refine (FSq.out _).mono ?_); rintro e w' ⟨rfl, rfl⟩))
      go_ret
      exact ⟨Lw.ret_int EE.out.symm, hb1⟩
    · have EE : Hid (E = 0) := EI.out h0 h1
      clear EI EO
      go_enter Try.func47, Try.ntmps47
      go_wp2_with (first | (go_at_call 50; (with_reducible refine X.out.mono ?_); rintro e w1 ⟨rfl, hb1⟩) | (go_at_call 95; (with_reducible refine (FSq.out _).mono ?_); rintro e w' ⟨rfl, rfl⟩))
      go_ret
      exact ⟨Lw.ret_int EE.out.symm, hb1⟩
  · rw [Lw.elm_bad h]
    have z : (Lw.fldE p f == 0) = false := by simpa using h
    generalize Lw.fldE p f = E at *
    replace X := Lib.hid X
    go_enter Try.func47, Try.ntmps47
    go_wp2_with (go_at_call 50; (with_reducible refine X.out.mono ?_); rintro e w1 ⟨rfl, hb1⟩)
    go_ret
    exact ⟨rfl, hb1⟩
set_option maxHeartbeats 2000000 in
theorem field_elements_bad (p : Int) (A : Option Addr) (n c : Nat) (f : List Int) (B : Option Addr) (m d : Nat) (w : World) (RA : Lw.Rd w 1 A n (Lw.intsV .i64 f)) (h : ¬ Lw.fldE p f = 0) :
    Calls Try.prog 93 #[.int .i64 p, .slice A n c, .slice B m d] w fun e w' => e = .returned (.tuple #[.agg #[.int .i64 0, .int .i64 0, .slice none 0 0], .int .i64 (Lw.fldE p f)]) ∧ Below w.heap.size w w' := by
  obtain ⟨W, hW⟩ : ∃ W, w.alloc (.cells #[.int .i64 0, .int .i64 0, .slice none 0 0] 130) = W := ⟨_, rfl⟩
  have B0 := Lib.hid (show W.heap[w.heap.size]? = some (.cells #[.int .i64 0, .int .i64 0, .slice none 0 0] 130 (0, 0)) from hW ▸ Lw.blk_new _ _ _)
  have hBW : Below w.heap.size w W := by rw [← hW]; exact Lw.balloc (Below.refl _ _) _
  have hWs : w.heap.size < W.heap.size := by rw [← hW]; simp
  have X := field_open p A n c f W (RA.below (Nat.le_refl _) hBW)
  rw [Lw.fldV_bad h] at X
  replace X := Lib.hid X
  have HW := Lib.hid hW
  have z : (Lw.fldE p f != 0) = true := by simpa using h
  have z' : (Lw.fldE p f == 0) = false := by simpa using h
  generalize Lw.fldE p f = E at *
  clear hW RA h
  go_enter Try.func93, Try.ntmps93
  go_wp2_with fail
  rw [HW.out]
  refine X.out.mono ?_
  rintro e w1 ⟨rfl, hb1⟩
  have B2 : (w1.alloc (.cells #[.int .i64 0, .int .i64 0, .slice none 0 0] 130)).heap[w.heap.size]? = some (.cells #[.int .i64 0, .int .i64 0, .slice none 0 0] 130 (0, 0)) := Lw.blk_alloc ((hb1.block _ hWs).trans B0.out) _
  have Bn : (w1.alloc (.cells #[.int .i64 0, .int .i64 0, .slice none 0 0] 130)).heap[w1.heap.size]? = some (.cells #[.int .i64 0, .int .i64 0, .slice none 0 0] 130 (0, 0)) := Lw.blk_new _ _ _
  have f1 := Lw.blk_free B2 0; have f2 := Lw.blk_free B2 1; have f3 := Lw.blk_free B2 2; have c1 := Lw.blk_cell B2 0; have c2 := Lw.blk_cell B2 1; have c3 := Lw.blk_cell B2 2; simp only [List.getElem?_toArray, List.getElem?_cons_zero, List.getElem?_cons_succ] at c1 c2 c3
  have g1 := Lw.blk_free Bn 0; have g2 := Lw.blk_free Bn 1; have g3 := Lw.blk_free Bn 2; have e1 := Lw.blk_cell Bn 0; have e2 := Lw.blk_cell Bn 1; have e3 := Lw.blk_cell Bn 2; simp only [List.getElem?_toArray, List.getElem?_cons_zero, List.getElem?_cons_succ] at e1 e2 e3
  have hB2 : Below W.heap.size W (w1.alloc (.cells #[.int .i64 0, .int .i64 0, .slice none 0 0] 130)) := Lw.balloc hb1 _
  have hBr := hBW.trans (hB2.mono hBW.size)
  have B2' := Lib.hid B2
  have hBr' := Lib.hid hBr
  clear B2 Bn hB2 hBr
  go_wp2_with fail
  obtain ⟨r0, r1, r2⟩ := Lw.set3c' (x := .int .i64 0) (y := .int .i64 0) (z := .slice none 0 0) B2'.out
  refine bodyPost_ret (v := .tuple #[.agg #[.int .i64 0, .int .i64 0, .slice none 0 0], .int .i64 E]) (by simp only [results, Try.results93]; simp [go_sem, r0, r1, r2]) rfl ⟨rfl, Lw.bset3' hBr'.out (by omega) _ _ _⟩
set_option maxHeartbeats 4000000 in
theorem field_elements_ok (p : Int) (A : Option Addr) (n c : Nat) (f : List Int) (B : Option Addr) (m d : Nat) (bs : List Int) (w : World) (RA : Lw.Rd w 1 A n (Lw.intsV .i64 f)) (RB : Lw.Rd w 1 B m (Lw.intsV .i64 bs)) (h : Lw.fldE p f = 0) (hm : m ≤ 4096) :
    Calls Try.prog 93 #[.int .i64 p, .slice A n c, .slice B m d] w fun e w' => e = .returned (.tuple #[.agg #[.int .i64 p, .int .i64 (p ^ (n - 1)), .slice A n c], .int .i64 (if Lw.elB (p ^ (n - 1)) bs = true then 0 else 2)]) ∧ Below w.heap.size w w' := by
  obtain ⟨W, hW⟩ : ∃ W, w.alloc (.cells #[.int .i64 0, .int .i64 0, .slice none 0 0] 130) = W := ⟨_, rfl⟩
  have B0 := Lib.hid (show W.heap[w.heap.size]? = some (.cells #[.int .i64 0, .int .i64 0, .slice none 0 0] 130 (0, 0)) from hW ▸ Lw.blk_new _ _ _)
  have hBW : Below w.heap.size w W := by rw [← hW]; exact Lw.balloc (Below.refl _ _) _
  have hWs : w.heap.size < W.heap.size := by rw [← hW]; simp
  have X := field_open p A n c f W (RA.below (Nat.le_refl _) hBW)
  rw [h, Lw.fldV_ok] at X
  obtain ⟨S, hS⟩ : ∃ z, p ^ (n - 1) = z := ⟨_, rfl⟩
  rw [hS] at X
  rw [hS]
  replace X := Lib.hid X
  have HW := Lib.hid hW
  have lb : bs.length = m := by have := RB.1; simpa [Lw.intsV] using this
  have LB := Lib.hid lb
  have RB := Lib.hid (RB.below (Nat.le_refl _) hBW)
  have ET := Lib.hid (fun k (h : k < bs.length) => Lw.el_take (S := S) (bs := bs) h)
  have EA := Lib.hid (fun k (h : k < bs.length) => Lw.el_at (S := S) (bs := bs) h)
  obtain ⟨EC, hEC⟩ : ∃ z : Int, (if Lw.elB S bs = true then 0 else 2) = z := ⟨_, rfl⟩
  have EY : Hid (Lw.elB S bs = true → EC = 0) := fun h => by rw [← hEC, if_pos h]
  have EN : Hid (Lw.elB S bs = false → EC = 2) := fun h => by rw [← hEC, if_neg (by rw [h]; decide)]
  rw [hEC]
  clear hW RA h hS lb hEC
  go_enter Try.func93, Try.ntmps93
  go_wp2_with fail
  rw [HW.out]
  refine X.out.mono ?_
  rintro e w1 ⟨rfl, hb1⟩
  have B2 : (w1.alloc (.cells #[.int .i64 p, .int .i64 S, .slice A n c] 130)).heap[w.heap.size]? = some (.cells #[.int .i64 0, .int .i64 0, .slice none 0 0] 130 (0, 0)) := Lw.blk_alloc ((hb1.block _ hWs).trans B0.out) _
  have Bn : (w1.alloc (.cells #[.int .i64 p, .int .i64 S, .slice A n c] 130)).heap[w1.heap.size]? = some (.cells #[.int .i64 p, .int .i64 S, .slice A n c] 130 (0, 0)) := Lw.blk_new _ _ _
  have hB2 : Below W.heap.size W (w1.alloc (.cells #[.int .i64 p, .int .i64 S, .slice A n c] 130)) := Lw.balloc hb1 _
  obtain ⟨V, hV⟩ : ∃ V, w1.alloc (.cells #[.int .i64 p, .int .i64 S, .slice A n c] 130) = V := ⟨_, rfl⟩
  rw [hV] at B2 Bn hB2
  have HV := Lib.hid hV
  clear hV
  have hBr := hBW.trans (hB2.mono hBW.size)
  have B2' := Lib.hid B2
  have hBr' := Lib.hid hBr
  have f1 := Lw.blk_free B2 0; have f2 := Lw.blk_free B2 1; have f3 := Lw.blk_free B2 2; have c1 := Lw.blk_cell B2 0; have c2 := Lw.blk_cell B2 1; have c3 := Lw.blk_cell B2 2; simp only [List.getElem?_toArray, List.getElem?_cons_zero, List.getElem?_cons_succ] at c1 c2 c3
  have g1 := Lw.blk_free Bn 0; have g2 := Lw.blk_free Bn 1; have g3 := Lw.blk_free Bn 2; have e1 := Lw.blk_cell Bn 0; have e2 := Lw.blk_cell Bn 1; have e3 := Lw.blk_cell Bn 2; simp only [List.getElem?_toArray, List.getElem?_cons_zero, List.getElem?_cons_succ] at e1 e2 e3
  have RV := Lib.hid (RB.out.below (Nat.le_refl _) hB2)
  clear B2 Bn hBr RB
  go_wp2_with fail
  rw [HV.out]
  go_loop [11, 24] (fun x i => ∃ k : Nat, i = .int .i64 (k : Int) ∧ k ≤ m ∧ Hid (Lw.elB S (bs.take k) = true)) (fun _ i => m - (intOf i).toNat)
  case atStart => exact ⟨0, rfl, by omega, rfl⟩
  case round =>
    obtain ⟨k, rfl, k1, T⟩ := hrel
    by_cases hlt : k < m
    · have hl : k < bs.length := by rw [LB.out]; exact hlt
      obtain ⟨ad, rfl, had, hcell⟩ := RV.out.at1 hlt (Lw.intsV_get hl)
      have N := Lib.hid (ET.out k hl T.out)
      have D := Lib.hid (EA.out k hl)
      obtain ⟨x, hx⟩ : ∃ x, bs[k] = x := ⟨_, rfl⟩
      rw [hx] at hcell N D
      clear hx hl had
      rcases (show x < 0 ∨ (0 ≤ x ∧ S ≤ x) ∨ (0 ≤ x ∧ x < S) by omega) with h0 | ⟨h0, h1⟩ | ⟨h0, h1⟩
      · have EE := Lib.hid (EN.out (D.out (.inl h0)))
        clear N D EY EN
        go_wp2_with fail
        obtain ⟨r0, r1, r2⟩ := Lw.set3c' (x := .int .i64 p) (y := .int .i64 S) (z := .slice A n c) B2'.out
        refine bodyPost_ret (v := .tuple #[.agg #[.int .i64 p, .int .i64 S, .slice A n c], .int .i64 2]) (by simp only [results, Try.results93]; simp [go_sem, r0, r1, r2]) rfl ⟨by rw [EE.out], Lw.bset3' hBr'.out (by omega) _ _ _⟩
      · have EE := Lib.hid (EN.out (D.out (.inr h1)))
        clear N D EY EN
        go_wp2_with fail
        obtain ⟨r0, r1, r2⟩ := Lw.set3c' (x := .int .i64 p) (y := .int .i64 S) (z := .slice A n c) B2'.out
        refine bodyPost_ret (v := .tuple #[.agg #[.int .i64 p, .int .i64 S, .slice A n c], .int .i64 2]) (by simp only [results, Try.results93]; simp [go_sem, r0, r1, r2]) rfl ⟨by rw [EE.out], Lw.bset3' hBr'.out (by omega) _ _ _⟩
      · have N1 := Lib.hid (N.out h0 h1)
        clear N D
        go_wp2_with fail
        go_round
        case rel => exact ⟨k + 1, by go_num, by omega, N1⟩
        case measure => simp [intOf]; omega
    · have hk : bs.take k = bs := List.take_of_length_le (by rw [LB.out]; omega)
      have T1 := T.out
      rw [hk] at T1
      have EE := Lib.hid (EY.out T1)
      clear T T1 hk EY EN
      go_wp2_with fail
      obtain ⟨r0, r1, r2⟩ := Lw.set3c' (x := .int .i64 p) (y := .int .i64 S) (z := .slice A n c) B2'.out
      refine bodyPost_ret (v := .tuple #[.agg #[.int .i64 p, .int .i64 S, .slice A n c], .int .i64 0]) (by simp only [results, Try.results93]; simp [go_sem, r0, r1, r2]) rfl ⟨by rw [EE.out], Lw.bset3' hBr'.out (by omega) _ _ _⟩
end Go.Proofs.Ytjhjppaabmbbbaa

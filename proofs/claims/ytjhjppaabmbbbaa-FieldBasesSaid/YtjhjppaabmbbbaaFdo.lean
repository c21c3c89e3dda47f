/- field.open, field.Check, the reference's FieldCheck. -/
import Derived.Test.YtjhjppaabmbbbaaFds
namespace Lw
open Go Go.RowKit
open Classical in
/-- the code of a field -/
noncomputable def fldE (p : Int) (f : List Int) : Int := if polyE p f = 0 then (if f.length < 2 ∨ ¬ f.getD (f.length - 1) 0 = 1 then 3 else if 4096 < p ^ (f.length - 1) then 1 else if Prd p f then 4 else 0) else polyE p f
theorem fld_poly {p : Int} {f : List Int} (h : ¬ polyE p f = 0) : fldE p f = polyE p f := by unfold fldE; rw [if_neg h]
theorem fld_arg {p : Int} {f : List Int} (h : polyE p f = 0) (h2 : f.length < 2 ∨ ¬ f.getD (f.length - 1) 0 = 1) : fldE p f = 3 := by unfold fldE; rw [if_pos h, if_pos h2]
theorem fld_large {p : Int} {f : List Int} (h : polyE p f = 0) (h2 : ¬ (f.length < 2 ∨ ¬ f.getD (f.length - 1) 0 = 1)) (h3 : 4096 < p ^ (f.length - 1)) : fldE p f = 1 := by unfold fldE; rw [if_pos h, if_neg h2, if_pos h3]
theorem fld_form {p : Int} {f : List Int} (h : polyE p f = 0) (h2 : ¬ (f.length < 2 ∨ ¬ f.getD (f.length - 1) 0 = 1)) (h3 : ¬ 4096 < p ^ (f.length - 1)) (h4 : Prd p f) : fldE p f = 4 := by unfold fldE; rw [if_pos h, if_neg h2, if_neg h3, if_pos h4]
theorem fld_ok {p : Int} {f : List Int} (h : polyE p f = 0) (h2 : ¬ (f.length < 2 ∨ ¬ f.getD (f.length - 1) 0 = 1)) (h3 : ¬ 4096 < p ^ (f.length - 1)) (h4 : ¬ Prd p f) : fldE p f = 0 := by unfold fldE; rw [if_pos h, if_neg h2, if_neg h3, if_neg h4]
theorem of_fld {p : Int} {f : List Int} (h : fldE p f = 0) : polyE p f = 0 ∧ 2 ≤ f.length ∧ f.getD (f.length - 1) 0 = 1 ∧ p ^ (f.length - 1) ≤ 4096 ∧ ¬ Prd p f := by
  by_cases h1 : polyE p f = 0
  · by_cases h2 : f.length < 2 ∨ ¬ f.getD (f.length - 1) 0 = 1
    · rw [fld_arg h1 h2] at h; cases h
    · by_cases h3 : 4096 < p ^ (f.length - 1)
      · rw [fld_large h1 h2 h3] at h; cases h
      · by_cases h4 : Prd p f
        · rw [fld_form h1 h2 h3 h4] at h; cases h
        · exact ⟨h1, by omega, Classical.byContradiction fun e => h2 (.inr e), by omega, h4⟩
  · rw [fld_poly h1] at h; exact absurd h h1
def fldV (p : Int) (A : Option Addr) (n c : Nat) (E : Int) : Value := if E = 0 then .agg #[.int .i64 p, .int .i64 (p ^ (n - 1)), .slice A n c] else .agg #[.int .i64 0, .int .i64 0, .slice none 0 0]
theorem fldV_bad {p : Int} {A : Option Addr} {n c : Nat} {E : Int} (h : ¬ E = 0) : fldV p A n c E = .agg #[.int .i64 0, .int .i64 0, .slice none 0 0] := if_neg h
theorem fldV_ok {p : Int} {A : Option Addr} {n c : Nat} : fldV p A n c 0 = .agg #[.int .i64 p, .int .i64 (p ^ (n - 1)), .slice A n c] := if_pos rfl
end Lw
set_option linter.unusedVariables false
set_option linter.unusedSimpArgs false
namespace Go.Proofs.Ytjhjppaabmbbbaa
open Go.RowKit
set_option maxHeartbeats 2000000 in
theorem ref_FieldCheck (p : Int) (A : Option Addr) (n c : Nat) (f : List Int) (w : World) (RA : Lw.Rd w 1 A n (Lw.intsV .i64 f)) :
    Calls Try.prog 50 #[.int .i64 p, .slice A n c] w fun e w' => e = .returned (.int .i64 (Lw.fldE p f)) ∧ Below w.heap.size w w' := by
  have X := ref_PolyCheck p A n c f w RA
  have la : f.length = n := by have := RA.1; simpa [Lw.intsV] using this
  by_cases h1 : Lw.polyE p f = 0
  · rw [h1] at X
    replace X := Lib.hid X
    obtain ⟨p1, p2, pp, l1, b1, z1⟩ := Lw.poly_facts h1
    have FSq := fun W (hn : 1 ≤ n) => ref_FieldSize p A n c W p1 p2 hn (by omega)
    by_cases h2 : f.length < 2
    · have E := Lib.hid (Lw.fld_arg h1 (.inl h2))
      have n2 : n < 2 := by omega
      clear FSq h1 b1 z1 RA
      go_enter Try.func50, Try.ntmps50
      go_wp2_with fail
      refine X.out.mono ?_
      rintro e w' ⟨rfl, rfl⟩
      have n2' : (n : Int) < 2 := by omega
      go_wp2_with fail
      go_ret
      exact ⟨Lw.ret_int E.out.symm, Below.refl _ _⟩
    · obtain ⟨t, ht⟩ : ∃ t, n = t + 1 := ⟨n - 1, by omega⟩
      subst ht
      obtain ⟨hl, _, _, hx⟩ := Lw.good_top (Lw.good_of h1) la
      obtain ⟨ad, rfl, had, hcell⟩ := RA.at1 (by omega : t < t + 1) (Lw.intsV_get hl)
      have n2' : ¬ (t : Int) + 1 < 2 := by omega
      have t13 : t ≤ 12 := by omega
      by_cases h3 : f[t] = 1
      · rw [h3] at hcell
        have h23 : ¬ (f.length < 2 ∨ ¬ f.getD (f.length - 1) 0 = 1) := by rw [hx, h3]; omega
        have z : ((1 : Int) != 1) = false := rfl
        by_cases h4 : 4096 < p ^ (f.length - 1)
        · have E := Lib.hid (Lw.fld_large h1 h23 h4)
          have SZ : Lw.sizL p (t + 1) = 0 := by unfold Lw.sizL; rw [if_pos (by rw [← la]; exact h4)]
          have FSq := Lib.hid (fun W => SZ ▸ FSq W (by omega))
          clear h1 b1 z1 RA h4 h23 hx h3 SZ
          go_enter Try.func50, Try.ntmps50
          go_wp2_with fail
          refine X.out.mono ?_
          rintro e w' ⟨rfl, rfl⟩
          go_wp2_with (go_at_call 95; (with_reducible refine (FSq.out _).mono ?_); rintro e w' ⟨rfl, rfl⟩)
          go_ret
          exact ⟨Lw.ret_int E.out.symm, Below.refl _ _⟩
        · have SZ : Lw.sizL p (t + 1) = p ^ t := by unfold Lw.sizL; rw [if_neg (by rw [← la]; exact h4)]; rfl
          have FSq := fun W => SZ ▸ FSq W (by omega)
          have S0 : (0 : Int) < p ^ t := Int.pow_pos (by omega)
          have PD := Lib.hid (ref_product p (some ad) (t + 1) c f w RA p1 p2 pp (Lw.good_of h1) (by omega) (by rw [← la]; omega))
          have EY := Lib.hid (fun h => Lw.fld_form h1 h23 h4 h)
          have EN := Lib.hid (fun h => Lw.fld_ok h1 h23 h4 h)
          obtain ⟨S, hS⟩ : ∃ z, p ^ t = z := ⟨_, rfl⟩
          rw [hS] at FSq S0
          replace FSq := Lib.hid FSq
          have S0 : ¬ S = 0 := by omega
          have zS : (S == 0) = false := by simpa using S0
          clear h1 b1 z1 RA h4 h23 hx h3 SZ hS
          go_enter Try.func50, Try.ntmps50
          go_wp2_with fail
          refine X.out.mono ?_
          rintro e w' ⟨rfl, rfl⟩
          go_wp2_with (go_at_call 95; (with_reducible refine (FSq.out _).mono ?_); rintro e w' ⟨rfl, rfl⟩)
          refine PD.out.mono ?_
          intro e w1 hq
          obtain ⟨⟨r, rfl, hr⟩, hb1⟩ := hq
          cases r with
          | true =>
            have E := Lib.hid (EY.out (hr.1 rfl))
            clear hr EY EN
            go_wp2_with fail
            go_ret
            exact ⟨Lw.ret_int E.out.symm, hb1⟩
          | false =>
            have E := Lib.hid (EN.out fun h => by have := hr.2 h; cases this)
            clear hr EY EN
            go_wp2_with fail
            go_ret
            exact ⟨Lw.ret_int E.out.symm, hb1⟩
      · have E := Lib.hid (Lw.fld_arg h1 (.inr (by rw [hx]; exact h3)))
        obtain ⟨x, hxx⟩ : ∃ z, f[t] = z := ⟨_, rfl⟩
        rw [hxx] at h3 hcell
        have z : (x != 1) = true := by simpa using h3
        clear FSq h1 b1 z1 RA hx hxx
        go_enter Try.func50, Try.ntmps50
        go_wp2_with fail
        refine X.out.mono ?_
        rintro e w' ⟨rfl, rfl⟩
        go_wp2_with fail
        go_ret
        exact ⟨Lw.ret_int E.out.symm, Below.refl _ _⟩
  · have E := Lib.hid (Lw.fld_poly h1)
    have h2 : (Lw.polyE p f != 0) = true := by simpa using h1
    have h2' : (Lw.polyE p f == 0) = false := by simpa using h1
    replace X := Lib.hid X
    generalize Lw.polyE p f = e0 at *
    clear RA
    go_enter Try.func50, Try.ntmps50
    go_wp2_with fail
    refine X.out.mono ?_
    rintro e w' ⟨rfl, rfl⟩
    go_wp2_with fail
    go_ret
    exact ⟨Lw.ret_int E.out.symm, Below.refl _ _⟩
set_option maxRecDepth 100000 in
set_option maxHeartbeats 4000000 in
theorem field_open (p : Int) (A : Option Addr) (n c : Nat) (f : List Int) (w : World) (RA : Lw.Rd w 1 A n (Lw.intsV .i64 f)) :
    Calls Try.prog 99 #[.int .i64 p, .slice A n c] w fun e w' => e = .returned (.tuple #[Lw.fldV p A n c (Lw.fldE p f), .int .i64 (Lw.fldE p f)]) ∧ Below w.heap.size w w' := by
  obtain ⟨W, hW⟩ : ∃ W, w.alloc (.cells #[.int .i64 0, .int .i64 0, .slice none 0 0] 130) = W := ⟨_, rfl⟩
  have B0 := Lib.hid (show W.heap[w.heap.size]? = some (.cells #[.int .i64 0, .int .i64 0, .slice none 0 0] 130 (0, 0)) from hW ▸ Lw.blk_new _ _ _)
  have hBW : Below w.heap.size w W := by rw [← hW]; exact Lw.balloc (Below.refl _ _) _
  have hWs : w.heap.size < W.heap.size := by rw [← hW]; simp
  have RW := RA.below (Nat.le_refl _) hBW
  have X := poly_Check p A n c f W RW
  have la : f.length = n := by have := RA.1; simpa [Lw.intsV] using this
  have HW := Lib.hid hW
  clear hW
  by_cases h1 : Lw.polyE p f = 0
  · rw [h1] at X
    replace X := Lib.hid X
    obtain ⟨p1, p2, pp, l1, b1, z1⟩ := Lw.poly_facts h1
    by_cases h2 : f.length < 2
    · have E := Lib.hid (Lw.fld_arg h1 (.inl h2))
      have n2 : n < 2 := by omega
      have n2' : (n : Int) < 2 := by omega
      clear h1 b1 z1 RA RW
      go_enter Try.func99, Try.ntmps99
      go_wp2_with (go_at_call 134; rw [HW.out]; (with_reducible refine X.out.mono ?_); rintro e w1 ⟨rfl, hb1⟩; have B2 := (hb1.block _ hWs).trans B0.out; have f1 := Lw.blk_free B2 0; have f2 := Lw.blk_free B2 1; have f3 := Lw.blk_free B2 2; have c1 := Lw.blk_cell B2 0; have c2 := Lw.blk_cell B2 1; have c3 := Lw.blk_cell B2 2; simp at c1 c2 c3)
      obtain ⟨r0, r1, r2⟩ := Lw.set3c' (x := .int .i64 0) (y := .int .i64 0) (z := .slice none 0 0) B2
      refine bodyPost_ret (v := .tuple #[.agg #[.int .i64 0, .int .i64 0, .slice none 0 0], .int .i64 3]) (by simp only [results, Try.results99]; simp [go_sem, r0, r1, r2]) rfl ⟨by rw [E.out, Lw.fldV_bad (by first | decide | exact HNZ.out)], Lw.bset3' (hBW.trans (hb1.mono hBW.size)) (by omega) _ _ _⟩
    · obtain ⟨t, ht⟩ : ∃ t, n = t + 1 := ⟨n - 1, by omega⟩
      subst ht
      obtain ⟨hl, _, _, hx⟩ := Lw.good_top (Lw.good_of h1) la
      obtain ⟨ad, rfl, had, hcell⟩ := RW.at1 (by omega : t < t + 1) (Lw.intsV_get hl)
      have n2' : ¬ (t : Int) + 1 < 2 := by omega
      have t13 : t ≤ 12 := by omega
      by_cases h3 : f[t] = 1
      · rw [h3] at hcell
        have h23 : ¬ (f.length < 2 ∨ ¬ f.getD (f.length - 1) 0 = 1) := by rw [hx, h3]; omega
        have z : ((1 : Int) != 1) = false := rfl
        have EL := Lib.hid (fun h4 => Lw.fld_large h1 h23 h4)
        have EY := Lib.hid (fun h4 h => Lw.fld_form h1 h23 h4 h)
        have EN := Lib.hid (fun h4 h => Lw.fld_ok h1 h23 h4 h)
        rw [la, Nat.add_sub_cancel] at EL EY EN
        have SP := Lib.hid (Lw.spl_prd p1 p2 pp (f := f) (by omega))
        rw [la, Nat.add_sub_cancel] at SP
        have FSq := Lib.hid (fun W1 (h : Below W.heap.size W W1) hs => field_splits p (p ^ t) (some ad) (t + 1) c f W1 (RW.below (Nat.le_refl W.heap.size) h) p1 p2 pp (Lw.good_of h1) (by omega) hs)
        have VO := Lib.hid (Lw.fldV_ok (p := p) (A := some ad) (n := t + 1) (c := c))
        rw [Nat.add_sub_cancel] at FSq VO
        have PS : Hid (∀ k, p ^ (k + 1) = p ^ k * p) := fun k => Int.pow_succ ..
        have PP : Hid (∀ k, 0 < p ^ k) := fun k => Int.pow_pos (by omega)
        have PL := Lib.hid (fun a b (h : a ≤ b) => Lw.ipow_le p1 (a := a) (b := b) h)
        have P0 : Hid (p ^ 0 = 1) := Int.pow_zero _
        clear h1 b1 z1 RA RW hx h3 h23
        go_enter Try.func99, Try.ntmps99
        go_wp2_with (go_at_call 134; rw [HW.out]; (with_reducible refine X.out.mono ?_); rintro e w1 ⟨rfl, hb1⟩; have hcell1 := (hb1.cell (by rw [Lw.add_block]; exact had)).trans hcell)
        have hWw1 := hb1.size
        go_loopw [34] (fun i wr => ∃ j : Nat, i = .int .i64 (j : Int) ∧ j ≤ t ∧ Hid (p ^ j ≤ 4096) ∧ Hid (wr.heap[w1.heap.size]? = some (.cells #[.int .i64 p, .int .i64 (p ^ j), .slice (some ad) (t + 1) c] 130 (0, 0))) ∧ Below W.heap.size W wr ∧ w1.heap.size < wr.heap.size) (fun i _ => t - (intOf i).toNat)
        case atStart => exact ⟨0, rfl, by omega, by rw [P0.out]; unfold Hid; omega, by rw [P0.out]; exact Lw.blk_new _ _ _, Lw.balloc hb1 _, by simp⟩
        case round =>
          obtain ⟨j, rfl, hj, HL, B7, hB, hlt7⟩ := hrel
          have h1 := PS.out j
          have h2 := PP.out j
          have h3 := HL.out
          have h4 := PP.out (j + 1)
          have h5 := PL.out (j + 1) t
          have B7 := B7.out
          have d0 := Lw.blk_cell B7 0; have d1 := Lw.blk_cell B7 1; have d2 := Lw.blk_cell B7 2; have g1 := Lw.blk_free B7 1
          simp at d0 d1 d2
          have B2 := (hB.block _ hWs).trans B0.out; have f1 := Lw.blk_free B2 0; have f2 := Lw.blk_free B2 1; have f3 := Lw.blk_free B2 2; have c1 := Lw.blk_cell B2 0; have c2 := Lw.blk_cell B2 1; have c3 := Lw.blk_cell B2 2; simp at c1 c2 c3
          by_cases hlt : j < t
          · have hlt' : (j : Int) < (t : Int) := by omega
            obtain ⟨S, hS⟩ : ∃ z, p ^ j = z := ⟨_, rfl⟩
            obtain ⟨U, hU⟩ : ∃ z, p ^ (j + 1) = z := ⟨_, rfl⟩
            rw [hS] at h1 h2 h3 d1
            rw [hU] at h1 h4 h5
            have m2 : S * p ≤ 4096 * 251 := Int.mul_le_mul h3 p2 (by omega) (by omega)
            rw [← h1] at m2
            have E1 : S * p = U := h1.symm
            have W1 : wrap64 (S * p) = U := by rw [E1]; exact IntWalk.wrap64_in _ (by omega)
            have B8 := Lw.blk_set_same B7 1 (.int .i64 U)
            simp at B8
            have hB8 : Below W.heap.size W (wr.setCell ⟨w1.heap.size, 1, none⟩ (.int .i64 U)) := hB.setCell hWw1 _
            have e1 := Lw.blk_cell B8 1
            simp at e1
            by_cases hbig : 4096 < U
            · have E := Lib.hid (EL.out (by have := h5 (by omega); omega))
              have B2 := (hB8.block _ hWs).trans B0.out
              have E1' := Lib.hid E1
              have B2' := Lib.hid B2
              have hB8' := Lib.hid hB8
              clear B8 hB8 B2 h5 E1 h1 hS
              go_wp2_with fail
              obtain ⟨r0, r1, r2⟩ := Lw.set3c' (x := .int .i64 0) (y := .int .i64 0) (z := .slice none 0 0) B2'.out
              refine bodyPost_ret (v := .tuple #[.agg #[.int .i64 0, .int .i64 0, .slice none 0 0], .int .i64 1]) (by simp only [results, Try.results99]; simp [go_sem, r0, r1, r2]) rfl ⟨by rw [E.out, Lw.fldV_bad (by decide)], Lw.bset3' (hBW.trans (hB8'.out.mono hBW.size)) (by omega) _ _ _⟩
            · have HS : Hid (p ^ (j + 1) ≤ 4096) := by rw [hU]; unfold Hid; omega
              have HU := Lib.hid hU
              have hB8' := Lib.hid hB8
              have B8' := Lib.hid B8
              clear h5 hS hU B8 hB8 E1 h1
              go_wp2_with fail
              go_roundw
              case rel => exact ⟨j + 1, by go_num, by omega, HS, by rw [HU.out]; exact B8'.out, hB8'.out, by simpa using hlt7⟩
              case measure => simp [intOf]; omega
          · have hjt : j = t := by omega
            subst hjt
            obtain ⟨S, hS⟩ : ∃ z, p ^ j = z := ⟨_, rfl⟩
            have FW := FSq.out wr hB (by omega)
            have SPW := SP.out (by omega)
            have EYW := EY.out (by omega)
            have ENW := EN.out (by omega)
            have VW := VO.out
            rw [hS] at FW d1 B7 VW
            have FW := Lib.hid FW
            have SPW := Lib.hid SPW
            have EYW := Lib.hid EYW
            have ENW := Lib.hid ENW
            have VW := Lib.hid VW
            have hnlt : ¬ (j : Int) < (j : Int) := by omega
            have B7 := Lib.hid B7
            clear FSq SP EY EN VO hS h5
            go_wp2_with fail
            refine FW.out.mono ?_
            intro e w2 hq
            obtain ⟨⟨r, rfl, hr⟩, hb2⟩ := hq
            have hB2 := Lw.bt hB hb2
            clear d0 d1 d2 g1 c1 c2 c3 f1 f2 f3 B2
            have B2 := (hB2.block _ hWs).trans B0.out; have f1 := Lw.blk_free B2 0; have f2 := Lw.blk_free B2 1; have f3 := Lw.blk_free B2 2; have c1 := Lw.blk_cell B2 0; have c2 := Lw.blk_cell B2 1; have c3 := Lw.blk_cell B2 2; simp at c1 c2 c3
            have B9 := (hb2.block _ hlt7).trans B7.out
            have d0 := Lw.blk_cell B9 0; have d1 := Lw.blk_cell B9 1; have d2 := Lw.blk_cell B9 2
            simp at d0 d1 d2
            have hBr := hBW.trans (hB2.mono hBW.size)
            cases r with
            | true =>
              have E := Lib.hid (EYW.out (SPW.out.1 (hr.1 rfl)))
              clear hr EYW ENW SPW
              go_wp2_with fail
              obtain ⟨r0, r1, r2⟩ := Lw.set3c' (x := .int .i64 0) (y := .int .i64 0) (z := .slice none 0 0) B2
              refine bodyPost_ret (v := .tuple #[.agg #[.int .i64 0, .int .i64 0, .slice none 0 0], .int .i64 4]) (by simp only [results, Try.results99]; simp [go_sem, r0, r1, r2]) rfl ⟨by rw [E.out, Lw.fldV_bad (by decide)], Lw.bset3' hBr (by omega) _ _ _⟩
            | false =>
              have E := Lib.hid (ENW.out fun h => by have := hr.2 (SPW.out.2 h); cases this)
              clear hr EYW ENW SPW
              go_wp2_with fail
              obtain ⟨r0, r1, r2⟩ := Lw.set3c' (x := .int .i64 p) (y := .int .i64 S) (z := .slice (some ad) (j + 1) c) B2
              refine bodyPost_ret (v := .tuple #[.agg #[.int .i64 p, .int .i64 S, .slice (some ad) (j + 1) c], .int .i64 0]) (by simp only [results, Try.results99]; simp [go_sem, r0, r1, r2]) rfl ⟨by rw [E.out, VW.out], Lw.bset3' hBr (by omega) _ _ _⟩
      · have E := Lib.hid (Lw.fld_arg h1 (.inr (by rw [hx]; exact h3)))
        obtain ⟨x, hxx⟩ : ∃ z, f[t] = z := ⟨_, rfl⟩
        rw [hxx] at h3 hcell
        have z : (x != 1) = true := by simpa using h3
        clear h1 b1 z1 RA RW hx hxx
        go_enter Try.func99, Try.ntmps99
        go_wp2_with (go_at_call 134; rw [HW.out]; (with_reducible refine X.out.mono ?_); rintro e w1 ⟨rfl, hb1⟩; have B2 := (hb1.block _ hWs).trans B0.out; have f1 := Lw.blk_free B2 0; have f2 := Lw.blk_free B2 1; have f3 := Lw.blk_free B2 2; have c1 := Lw.blk_cell B2 0; have c2 := Lw.blk_cell B2 1; have c3 := Lw.blk_cell B2 2; simp at c1 c2 c3; have hcell1 := (hb1.cell (by rw [Lw.add_block]; exact had)).trans hcell)
        obtain ⟨r0, r1, r2⟩ := Lw.set3c' (x := .int .i64 0) (y := .int .i64 0) (z := .slice none 0 0) B2
        refine bodyPost_ret (v := .tuple #[.agg #[.int .i64 0, .int .i64 0, .slice none 0 0], .int .i64 3]) (by simp only [results, Try.results99]; simp [go_sem, r0, r1, r2]) rfl ⟨by rw [E.out, Lw.fldV_bad (by first | decide | exact HNZ.out)], Lw.bset3' (hBW.trans (hb1.mono hBW.size)) (by omega) _ _ _⟩
  · have E := Lib.hid (Lw.fld_poly h1)
    have HNZ := Lib.hid h1
    have h2 : (Lw.polyE p f != 0) = true := by simpa using h1
    have h2' : (Lw.polyE p f == 0) = false := by simpa using h1
    replace X := Lib.hid X
    generalize Lw.polyE p f = e0 at *
    clear RA RW
    go_enter Try.func99, Try.ntmps99
    go_wp2_with (go_at_call 134; rw [HW.out]; (with_reducible refine X.out.mono ?_); rintro e w1 ⟨rfl, hb1⟩; have B2 := (hb1.block _ hWs).trans B0.out; have f1 := Lw.blk_free B2 0; have f2 := Lw.blk_free B2 1; have f3 := Lw.blk_free B2 2; have c1 := Lw.blk_cell B2 0; have c2 := Lw.blk_cell B2 1; have c3 := Lw.blk_cell B2 2; simp at c1 c2 c3)
    obtain ⟨r0, r1, r2⟩ := Lw.set3c' (x := .int .i64 0) (y := .int .i64 0) (z := .slice none 0 0) B2
    refine bodyPost_ret (v := .tuple #[.agg #[.int .i64 0, .int .i64 0, .slice none 0 0], .int .i64 e0]) (by simp only [results, Try.results99]; simp [go_sem, r0, r1, r2]) rfl ⟨by rw [E.out, Lw.fldV_bad (by first | decide | exact HNZ.out)], Lw.bset3' (hBW.trans (hb1.mono hBW.size)) (by omega) _ _ _⟩
end Go.Proofs.Ytjhjppaabmbbbaa

/- parts.Open: what all know together. -/
import Derived.Test.YtlgegdmnbhoepaaShu
import Derived.Test.YtlgegdmnbhoepaaShv
import Derived.Test.YtlgegdmnbhoepaaGau
import Derived.Test.YtlgegdmnbhoepaaCat
namespace Lw
open Go Go.RowKit
theorem polyE_nil' (p : Int) : polyE p [] = pprE p := by
  by_cases h : pprE p = 0
  · rw [poly_in h (by decide), h]; rfl
  · rw [poly_p h]
def ParP (p t : Int) : Prop := 0 ≤ t ∧ t ≤ 4 ∧ 2 * t + 1 < p
instance (p t : Int) : Decidable (ParP p t) := inferInstanceAs (Decidable (0 ≤ t ∧ t ≤ 4 ∧ 2 * t + 1 < p))
/-- shares as points -/
def opL (ys : List Int) (k : Nat) : List PtT := (List.range k).map fun (i : Nat) => (((i : Nat) : Int) + 1, ys.getD i 0)
theorem opL_len (ys : List Int) (k : Nat) : (opL ys k).length = k := by simp [opL]
theorem opL_succ (ys : List Int) (k : Nat) : opL ys (k + 1) = opL ys k ++ [((k : Int) + 1, ys.getD k 0)] := by unfold opL; rw [List.range_succ, List.map_append, List.map_singleton]
theorem opL_at {ys : List Int} {n k : Nat} (h : k < n) : ptG (opL ys n) k = ((k : Int) + 1, ys.getD k 0) := by
  rw [ptG_at (by rw [opL_len]; exact h)]; simp [opL]
open Classical in
noncomputable def opnE (p t : Int) (ys : List Int) : Int := if ¬ pprE p = 0 then pprE p else if ¬ ParP p t ∨ outR p ys = true then 2 else if ¬ (ys.length : Int) = 2 * t + 1 then 4 else 0
theorem opn_p {p t : Int} {ys : List Int} (h : ¬ pprE p = 0) : opnE p t ys = pprE p := if_pos h
theorem opn_r {p t : Int} {ys : List Int} (h : pprE p = 0) (h1 : ¬ ParP p t ∨ outR p ys = true) : opnE p t ys = 2 := by unfold opnE; rw [if_neg (by simp [h]), if_pos h1]
theorem opn_f {p t : Int} {ys : List Int} (h : pprE p = 0) (h1 : ParP p t) (h2 : outR p ys = false) (h3 : ¬ (ys.length : Int) = 2 * t + 1) : opnE p t ys = 4 := by unfold opnE; rw [if_neg (by simp [h]), if_neg (by simp [h1, h2]), if_pos h3]
theorem opn_0 {p t : Int} {ys : List Int} (h : pprE p = 0) (h1 : ParP p t) (h2 : outR p ys = false) (h3 : (ys.length : Int) = 2 * t + 1) : opnE p t ys = 0 := by unfold opnE; rw [if_neg (by simp [h]), if_neg (by simp [h1, h2]), if_neg (by simp [h3])]
theorem opn_pts {p t : Int} {ys : List Int} (h : pprE p = 0) (h1 : ParP p t) (h2 : outR p ys = false) (h3 : (ys.length : Int) = 2 * t + 1) : joinE p (opL ys ys.length) = 0 := by
  obtain ⟨p1, p2, pp⟩ := ppr_ok h
  obtain ⟨t1, t2, t3⟩ := h1
  have hb := outR_in h2
  have e0 : ptsE p (opL ys ys.length) = 0 := by
    refine pts_zero h (by rw [opL_len]; omega) (fun k hk => ?_) ?_
    · have hk' : k < ys.length := by rw [opL_len] at hk; exact hk
      have e := opL_at (ys := ys) hk'
      rw [ptG_at hk] at e
      rw [e]
      have := getD_bd (by omega : 0 < p) hb k
      generalize ys.getD k 0 = v at *
      unfold outP; simp; omega
    · rw [opL_len]
      rintro ⟨i, j, hj, hi, e⟩
      rw [fst_getD, fst_getD, opL_at hi, opL_at (by omega)] at e
      simp at e; omega
  refine join_ok e0 ?_
  rw [Bool.eq_false_iff]
  intro hz
  obtain ⟨r, hr, h5⟩ := List.any_eq_true.1 hz
  obtain ⟨i, _, rfl⟩ := List.mem_map.1 hr
  simp at h5
  omega
end Lw
set_option linter.unusedVariables false
set_option linter.unusedSimpArgs false
namespace Go.Proofs.Ytlgegdmnbhoepaa
open Go.RowKit
theorem parts_parties (p t : Int) (w : World) :
    Calls Try.prog 79 #[.int .i64 p, .int .i64 t] w fun e w' => e = .returned (.bool (decide (Lw.ParP p t))) ∧ w = w' := by
  by_cases h : Lw.ParP p t
  · obtain ⟨h1, h2, h3⟩ := h
    have E := Lib.hid (show decide (Lw.ParP p t) = true from decide_eq_true ⟨h1, h2, h3⟩)
    go_enter Try.func79, Try.ntmps79
    go_wp2
    go_ret
    exact ⟨by rw [E.out]; rfl, rfl⟩
  · have E := Lib.hid (show decide (Lw.ParP p t) = false from decide_eq_false h)
    have key : t < 0 ∨ (0 ≤ t ∧ 4 < t) ∨ (0 ≤ t ∧ t ≤ 4 ∧ p ≤ 2 * t + 1 ∧ ¬ 2 * t + 1 < p) := by unfold Lw.ParP at h; omega
    clear h
    rcases key with h1 | ⟨h1, h2⟩ | ⟨h1, h2, h3, h4⟩
    all_goals
      go_enter Try.func79, Try.ntmps79
      go_wp2
      go_ret
      exact ⟨by rw [E.out]; rfl, rfl⟩
theorem ref_PartiesCheck (p t : Int) (w : World) :
    Calls Try.prog 36 #[.int .i64 p, .int .i64 t] w fun e w' => e = .returned (.int .i64 (if Lw.ParP p t then 0 else 2)) ∧ w = w' := by
  by_cases h : Lw.ParP p t
  · obtain ⟨h1, h2, h3⟩ := h
    rw [if_pos ⟨h1, h2, h3⟩]
    go_enter Try.func36, Try.ntmps36
    go_wp2
    go_ret
    exact ⟨rfl, rfl⟩
  · rw [if_neg h]
    have key : t < 0 ∨ (0 ≤ t ∧ 4 < t) ∨ (0 ≤ t ∧ t ≤ 4 ∧ p ≤ 2 * t + 1 ∧ ¬ 2 * t + 1 < p) := by unfold Lw.ParP at h; omega
    clear h
    rcases key with h1 | ⟨h1, h2⟩ | ⟨h1, h2, h3, h4⟩
    all_goals
      go_enter Try.func36, Try.ntmps36
      go_wp2
      go_ret
      exact ⟨rfl, rfl⟩
theorem elPnv : Lw.El Try.prog 64 66 (.agg #[.int .i64 0, .int .i64 0]) 2 16 := Lw.El.mk' Try.underlying64 (by kernel_rfl) rfl (by decide) (by decide)
def OpnR (p t : Int) (ys : List Int) (w : World) (e : Ending) (w' : World) : Prop := (Lw.opnE p t ys = 0 → e = .returned (.tuple #[.int .i64 (Lw.hornV p (Lw.nst p (Lw.opL ys ys.length) ys.length).1 0), .int .i64 0])) ∧ (¬ Lw.opnE p t ys = 0 → e = .returned (.tuple #[.int .i64 0, .int .i64 (Lw.opnE p t ys)])) ∧ Below w.heap.size w w'
set_option maxRecDepth 100000 in
set_option maxHeartbeats 4000000 in
theorem parts_Open (p t : Int) (A : Option Addr) (n c : Nat) (ys : List Int) (w : World) (R : Lw.Rd w 1 A n (Lw.intsV .i64 ys)) (hn : n ≤ 9223372036854775807) :
    Calls Try.prog 34 #[.int .i64 p, .int .i64 t, .slice A n c] w (OpnR p t ys w) := by
  have ly : ys.length = n := by have := R.1; simpa [Lw.intsV] using this
  have X := fun w => poly_Check p none 0 0 [] w (Lw.Rd.nil _ _ _)
  rw [Lw.polyE_nil'] at X
  have RR := Lib.hid R
  by_cases h0 : Lw.pprE p = 0
  · rw [h0] at X
    replace X := Lib.hid X
    have PT := Lib.hid (fun w => parts_parties p t w)
    by_cases h1 : Lw.ParP p t
    · rw [decide_eq_true h1] at PT
      have PO := fun W (hb : Below w.heap.size w W) => parts_out p A n c ys W (R.below (Nat.le_refl _) hb) hn
      cases h2 : Lw.outR p ys with
      | true =>
        have E := Lib.hid (Lw.opn_r (t := t) h0 (.inr h2))
        rw [h2] at PO
        replace PO := Lib.hid PO
        clear R h0 h1 h2 ly
        go_enter Try.func34, Try.ntmps34
        go_wp2_with fail
        refine (X.out _).mono ?_
        rintro e w1 ⟨rfl, hb1⟩
        go_wp2_with (go_at_call 79; (with_reducible refine (PT.out _).mono ?_); rintro e w' ⟨rfl, rfl⟩)
        refine (PO.out _ hb1).mono ?_
        rintro e w2 ⟨rfl, hb2⟩
        go_wp2_with fail
        go_ret2
        exact ⟨fun h => by rw [E.out] at h; exact absurd h (by decide), fun _ => by rw [E.out]; rfl, Lw.bt hb1 hb2⟩
      | false =>
        rw [h2] at PO
        replace PO := Lib.hid PO
        obtain ⟨t1, t2, t3⟩ := h1
        by_cases h3 : (ys.length : Int) = 2 * t + 1
        · have E := Lib.hid (Lw.opn_0 h0 ⟨t1, t2, t3⟩ h2 h3)
          have J0 := Lw.opn_pts h0 ⟨t1, t2, t3⟩ h2 h3
          obtain ⟨p1, p2, pp⟩ := Lw.ppr_ok h0
          have LY := Lib.hid ly
          have OS := Lib.hid (fun k => Lw.opL_succ ys k)
          have SJ := Lib.hid (fun D g W (RD : Lw.Rd W 2 D n (Lw.pairsV .i64 .i64 (Lw.opL ys ys.length))) => share_Join p D n g (Lw.opL ys ys.length) W RD (by
            intro r hr
            obtain ⟨i, hi, rfl⟩ := List.mem_map.1 hr
            have := List.mem_range.1 hi
            show (Lit.int .i64 ((i : Int) + 1)).wf = true
            show (decide (IntKind.i64.min ≤ (i : Int) + 1) && decide ((i : Int) + 1 ≤ IntKind.i64.max)) = true
            rw [show IntKind.i64.min = -9223372036854775808 by decide, show IntKind.i64.max = 9223372036854775807 by decide]
            simp; omega))
          have J0 := Lib.hid J0
          rw [Lw.opL_len] at SJ
          have hn3 : (n : Int) = 2 * t + 1 := by omega
          have n9 : n ≤ 9 := by omega
          rw [ly] at SJ J0
          unfold OpnR
          rw [ly]
          clear h0 h2 h3 ly R pp
          go_enter Try.func34, Try.ntmps34
          go_wp2_with fail
          refine (X.out _).mono ?_
          rintro e w1 ⟨rfl, hb1⟩
          go_wp2_with (go_at_call 79; (with_reducible refine (PT.out _).mono ?_); rintro e w' ⟨rfl, rfl⟩)
          refine (PO.out _ hb1).mono ?_
          rintro e w2 ⟨rfl, hb2⟩
          have hB2 := Lw.bt hb1 hb2
          go_wp2_with fail
          go_loopw [9, 10, 11, 34] (fun lv iv yv xv wr => ∃ k : Nat, xv = .int .i64 (k : Int) ∧ k ≤ n ∧ wr.ownsRow w2.heap.size 66 2 lv k (Lw.pairsV .i64 .i64 (Lw.opL ys k)) ∧ Below w2.heap.size w2 wr) (fun _ _ _ xv _ => n - (intOf xv).toNat)
          case atStart => exact ⟨0, rfl, by omega, World.ownsRow_nil _ _ _ _, Below.refl _ _⟩
          case round =>
            obtain ⟨k, rfl, hk, own, hB⟩ := hrel
            by_cases hlt : k < n
            · have hl : k < ys.length := by rw [LY.out]; exact hlt
              obtain ⟨ad, rfl, had, hcell⟩ := (RR.out.below (Nat.le_refl _) (Lw.bt hB2 hB)).at1 hlt (Lw.intsV_get hl)
              have OK := OS.out k
              rw [Lw.getD_at hl] at OK
              obtain ⟨y, hy⟩ : ∃ y, ys[k] = y := ⟨_, rfl⟩
              rw [hy] at hcell OK
              have OK := Lib.hid OK
              have OWN := Lib.hid own
              have hlt' : (k : Int) < (n : Int) := by omega
              clear hy hl own had
              go_wp2_with (at_builtin; refine Lw.wpList_app elPnv rfl _ _ rfl rfl (OWN.out.alloc _) rfl (by first | exact Lw.Rd.nil _ _ _ | exact Lw.Rd.lit (Lw.blk_new' (by simp) _ _) rfl rfl | exact Lw.Rd.lit (Lw.blk_alloc (Lw.blk_new' (by simp) _ _) _) rfl rfl) (Lw.one2 .i64 .i64 _ _) (by omega) (Lw.balloc hB _) (Nat.le_refl _) (by have := hB.size; simp; omega) ?_; intro v2 w5 own5 hb5 _ _)
              have O5 := Lib.hid own5
              clear own5
              go_wp2_with fail
              go_roundw
              case rel => exact ⟨k + 1, by go_num, by omega, by rw [OK.out, Lw.pairsV_append]; exact O5.out, hb5⟩
              case measure => simp [intOf]; omega
            · have hkn : k = n := by omega
              subst hkn
              obtain ⟨D, g, rfl, _⟩ := Lw.ownsForm own
              have SX := Lib.hid (SJ.out D g wr (Lw.Rd.of_own own))
              clear own
              go_wp2_with fail
              refine SX.out.mono ?_
              rintro e w6 ⟨X1, _, hb6⟩
              replace X1 := X1 J0.out
              subst X1
              clear SX
              go_wp2_with fail
              go_ret2
              exact ⟨fun _ => rfl, fun h => absurd E.out h, Lw.bt (Lw.bt hB2 hB) hb6⟩
        · have E := Lib.hid (Lw.opn_f h0 ⟨t1, t2, t3⟩ h2 h3)
          have hn3 : ((n : Int) == 2 * t + 1) = false := by rw [ly] at h3; simpa using h3
          have hn4 : ((n : Int) != 2 * t + 1) = true := by rw [ly] at h3; simpa using h3
          clear R h0 h2 ly h3
          go_enter Try.func34, Try.ntmps34
          go_wp2_with fail
          refine (X.out _).mono ?_
          rintro e w1 ⟨rfl, hb1⟩
          go_wp2_with (go_at_call 79; (with_reducible refine (PT.out _).mono ?_); rintro e w' ⟨rfl, rfl⟩)
          refine (PO.out _ hb1).mono ?_
          rintro e w2 ⟨rfl, hb2⟩
          go_wp2_with fail
          go_ret2
          exact ⟨fun h => by rw [E.out] at h; exact absurd h (by decide), fun _ => by rw [E.out]; rfl, Lw.bt hb1 hb2⟩
    · have E := Lib.hid (Lw.opn_r (ys := ys) h0 (.inl h1))
      rw [decide_eq_false h1] at PT
      clear R h0 h1 ly
      go_enter Try.func34, Try.ntmps34
      go_wp2_with fail
      refine (X.out _).mono ?_
      rintro e w1 ⟨rfl, hb1⟩
      go_wp2_with (go_at_call 79; (with_reducible refine (PT.out _).mono ?_); rintro e w' ⟨rfl, rfl⟩)
      go_ret2
      exact ⟨fun h => by rw [E.out] at h; exact absurd h (by decide), fun _ => by rw [E.out]; rfl, hb1⟩
  · have E := Lib.hid (Lw.opn_p (t := t) (ys := ys) h0)
    have H0 := Lib.hid h0
    have z : (Lw.pprE p != 0) = true := by simpa using h0
    replace X := Lib.hid X
    unfold OpnR
    generalize Lw.opnE p t ys = EE at *
    clear R h0 ly
    go_enter Try.func34, Try.ntmps34
    go_wp2_with fail
    refine (X.out _).mono ?_
    rintro e w1 ⟨rfl, hb1⟩
    go_wp2_with fail
    go_ret2
    exact ⟨fun h => by rw [E.out] at h; exact absurd h H0.out, fun _ => by rw [E.out]; rfl, hb1⟩
end Go.Proofs.Ytlgegdmnbhoepaa

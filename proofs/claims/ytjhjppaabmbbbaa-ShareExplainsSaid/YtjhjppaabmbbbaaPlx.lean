/- The reference's PointsCheck. -/
import Derived.Test.YtjhjppaabmbbbaaPlw
set_option linter.unusedVariables false
set_option linter.unusedSimpArgs false
namespace Go.Proofs.Ytjhjppaabmbbbaa
open Go.RowKit
set_option maxRecDepth 100000 in
set_option maxHeartbeats 4000000 in
theorem ref_PointsCheck (p : Int) (A : Option Addr) (n c : Nat) (L : List Lw.PtT) (w : World) (R : Lw.Rd w 2 A n (Lw.pairsV .i64 .i64 L)) :
    Calls Try.prog 38 #[.int .i64 p, .slice A n c] w fun e w' => e = .returned (.int .i64 (Lw.ptsE p L)) ∧ Below w.heap.size w w' := by
  have lL := Lw.pairsV_len R
  have X := ref_PrimeCheck p w
  by_cases h0 : Lw.pprE p = 0
  · rw [h0] at X
    replace X := Lib.hid X
    by_cases h1 : 13 < n
    · have E := Lib.hid (Lw.pts_len (L := L) h0 (by omega))
      have i1 : (13 : Int) < (n : Int) := by omega
      generalize Lw.ptsE p L = f at *
      clear R h0
      go_enter Try.func38, Try.ntmps38
      go_wp2_with fail
      refine X.out.mono ?_
      rintro e w1 ⟨rfl, rfl⟩
      go_wp2_with fail
      go_ret
      exact ⟨by rw [E.out]; rfl, Below.refl _ _⟩
    · have i1 : ¬ (13 : Int) < (n : Int) := by omega
      have E2 := Lib.hid (fun k hk ho => Lw.pts_out (p := p) (L := L) (k := k) h0 (by omega) hk ho)
      have E4 := Lib.hid (fun a b => Lw.pts_dup (p := p) (L := L) h0 (by omega) a b)
      have E0 := Lib.hid (fun a b => Lw.pts_zero (p := p) (L := L) h0 (by omega) a b)
      generalize Lw.ptsE p L = f at *
      have R := Lib.hid R
      have LL := Lib.hid lL
      clear lL h0
      go_enter Try.func38, Try.ntmps38
      go_wp2_with fail
      refine X.out.mono ?_
      rintro e w1 ⟨rfl, rfl⟩
      go_wp2_with fail
      go_loopw [7, 20] (fun x i wr => ∃ k : Nat, k ≤ n ∧ i = .int .i64 (k : Int) ∧ Hid (Lw.InK p L k) ∧ Below w.heap.size w wr) (fun _ i _ => n - (intOf i).toNat)
      case atStart => exact ⟨0, Nat.zero_le _, rfl, fun i hi h => by omega, Below.refl _ _⟩
      case round =>
        obtain ⟨k, hk, rfl, IK, hB⟩ := hrel
        by_cases hlt : k < n
        · have hl : k < L.length := by rw [LL.out]; exact hlt
          obtain ⟨g0, g1⟩ := Lw.pairsV_get (k := .i64) (l := .i64) hl
          obtain ⟨ad, rfl, had, c0, c1⟩ := (R.out.below (Nat.le_refl _) hB).at2 hlt g0 g1
          have IN := fun h => Lw.inK_next hl IK.out h
          have O2 := fun h => E2.out k hl h
          obtain ⟨⟨x, y⟩, hx⟩ : ∃ z, L[k] = z := ⟨_, rfl⟩
          rw [hx] at c0 c1 IN O2
          simp only at c0 c1
          have hlt' : (k : Int) < (n : Int) := by omega
          have hB2 := Lw.balloc hB (.cells #[.int .i64 x, .int .i64 y] 81)
          cases ho : Lw.outP p (x, y) with
          | true =>
            have O2 := Lib.hid (O2 ho)
            have hbad := Lw.outP_yes ho
            clear IN hx g0 g1 hl had IK ho E4 E0
            have key : x < 0 ∨ (¬ x < 0 ∧ p ≤ x) ∨ (¬ x < 0 ∧ ¬ p ≤ x ∧ y < 0) ∨ (¬ x < 0 ∧ ¬ p ≤ x ∧ ¬ y < 0 ∧ p ≤ y) := by omega
            clear hbad
            rcases key with k1 | ⟨k1, k2⟩ | ⟨k1, k2, k3⟩ | ⟨k1, k2, k3, k4⟩
            all_goals ((go_wp2_with fail) <;> (go_ret; exact ⟨by rw [O2.out]; rfl, hB2⟩))
          | false =>
            have IN := Lib.hid (IN ho)
            obtain ⟨x0, x1, y0, y1⟩ := Lw.outP_no ho
            clear O2 hx g0 g1 hl had IK ho E4 E0
            have x2 : ¬ x < 0 := by omega
            have y2 : ¬ y < 0 := by omega
            have x3 : ¬ p ≤ x := by omega
            have y3 : ¬ p ≤ y := by omega
            clear x0 x1 y0 y1
            go_wp2_with fail
            go_roundw
            case rel => exact ⟨k + 1, by omega, by go_num, IN, hB2⟩
            case measure => simp [intOf]; omega
        · have hkn : k = n := by omega
          subst hkn
          have IA : Hid (∀ k (hk : k < L.length), Lw.outP p L[k] = false) := Lib.hid fun i hi => IK.out i hi (by rw [LL.out] at hi; exact hi)
          have RR := Lib.hid (R.out.below (Nat.le_refl _) hB)
          clear IK E2
          go_wp2_with fail
          go_loopw [8, 9] (fun ii jj wz => ∃ s d : Nat, ii = .int .i64 (s : Int) ∧ s ≤ k ∧ Hid (¬ Lw.DupP (L.map Prod.fst) s) ∧ wz = wr.drewN d) (fun ii _ _ => k - (intOf ii).toNat)
          case atStart => exact ⟨0, 0, rfl, by omega, (fun ⟨i, j, h1, h2, _⟩ => by omega), rfl⟩
          case round =>
            obtain ⟨s, d, rfl, hs, ND, rfl⟩ := hrel
            by_cases hsl : s < k
            · have hsl' : (s : Int) < (k : Int) := by omega
              have sl : s < L.length := by rw [LL.out]; exact hsl
              obtain ⟨g0, g1⟩ := Lw.pairsV_get (k := .i64) (l := .i64) sl
              obtain ⟨ae, e1, hae, c0, c1⟩ := RR.out.at2 hsl g0 g1
              have gs : (L.map Prod.fst).getD s 0 = L[s].1 := by rw [Lw.fst_getD, Lw.ptG_at sl]
              obtain ⟨⟨x, y⟩, hx⟩ : ∃ z, L[s] = z := ⟨_, rfl⟩
              rw [hx] at c0 c1 gs
              simp only at c0 c1 gs
              have GS := Lib.hid gs
              subst e1
              clear hx sl hae gs g0 g1 c1
              go_wp2_with fail
              go_loopw [9] (fun jj wz => ∃ t d : Nat, jj = .int .i64 (t : Int) ∧ t ≤ s ∧ Hid (∀ j, j < t → ¬ (L.map Prod.fst).getD j 0 = x) ∧ wz = wr.drewN d) (fun jj _ => s - (intOf jj).toNat)
              case atStart => exact ⟨0, d, rfl, by omega, (fun j hj => by omega), rfl⟩
              case round =>
                obtain ⟨t, d, rfl, ht, NE, rfl⟩ := hrel
                by_cases htl : t < s
                · have htl' : (t : Int) < (s : Int) := by omega
                  have htr : (t : Int) < (k : Int) := by omega
                  have tl : t < L.length := by have := LL.out; omega
                  obtain ⟨g0, g1⟩ := Lw.pairsV_get (k := .i64) (l := .i64) tl
                  obtain ⟨af, e1, haf, f0, f1⟩ := RR.out.at2 (by omega : t < k) g0 g1
                  injection e1 with e1
                  subst e1
                  have gt : (L.map Prod.fst).getD t 0 = L[t].1 := by rw [Lw.fst_getD, Lw.ptG_at tl]
                  obtain ⟨⟨z, u⟩, hy⟩ : ∃ z, L[t] = z := ⟨_, rfl⟩
                  rw [hy] at f0 f1 gt
                  simp only at f0 f1 gt
                  have GT := Lib.hid gt
                  clear hy tl haf gt g0 g1 f1
                  by_cases exy : x = z
                  · have E := Lib.hid (E4.out IA.out ⟨s, t, htl, by rw [LL.out]; exact hsl, by rw [GS.out, GT.out]; exact exy⟩)
                    have zb : (x == z) = true := by simpa using exy
                    clear E4 E0
                    go_wp2
                    go_quiet (fail)
                    go_wp2
                    go_ret
                    exact ⟨by rw [E.out]; rfl, by first | exact Lw.bdrewN hB _ | (rw [World.drewN_drewN]; exact Lw.bdrewN hB _)⟩
                  · have NE2 : Hid (∀ j, j < t + 1 → ¬ (L.map Prod.fst).getD j 0 = x) := fun j hj => by
                      by_cases e : j = t
                      · subst e; rw [GT.out]; exact fun h => exy h.symm
                      · exact NE.out j (by omega)
                    have zb : (x == z) = false := by simpa using exy
                    clear E4 E0
                    go_wp2
                    go_quiet (fail)
                    go_wp2
                    go_roundw
                    case rel => exact ⟨t + 1, _, by go_num, by omega, NE2, rfl⟩
                    case measure => simp [intOf]; omega
                · have hts : t = s := by omega
                  subst hts
                  have ND2 : Hid (¬ Lw.DupP (L.map Prod.fst) (t + 1)) := fun h => by
                    rcases Lw.dup_next h with h1 | ⟨j, hj, hy⟩
                    · exact ND.out h1
                    · exact NE.out j hj (hy.symm.trans GS.out)
                  clear E4 E0
                  go_wp2
                  go_roundw
                  case rel => exact ⟨t + 1, _, by go_num, by omega, ND2, rfl⟩
                  case measure => simp [intOf]; omega
            · have hsr : s = k := by omega
              subst hsr
              have E := Lib.hid (E0.out IA.out (by rw [LL.out]; exact ND.out))
              clear E4 E0
              go_wp2_with fail
              go_ret
              exact ⟨by rw [E.out]; rfl, Lw.bdrewN hB _⟩
  · have E := Lib.hid (Lw.pts_p (L := L) h0)
    have z : (Lw.pprE p != 0) = true := by simpa using h0
    have z' : (Lw.pprE p == 0) = false := by simpa using h0
    generalize Lw.ptsE p L = f at *
    generalize Lw.pprE p = g at *
    clear R h0
    replace X := Lib.hid X
    go_enter Try.func38, Try.ntmps38
    go_wp2_with fail
    refine X.out.mono ?_
    rintro e w1 ⟨rfl, rfl⟩
    go_wp2_with fail
    go_ret
    exact ⟨by rw [E.out]; rfl, Below.refl _ _⟩
end Go.Proofs.Ytjhjppaabmbbbaa

/- The iterator over the prime factors of a number (primes.powers), and primes.Is. -/
import Derived.Test.YtafefengppiobaaKCurveTimes1
import Derived.Test.YtafefengppiobaaKCurveTimes0
import Derived.OneCell
set_option linter.unusedVariables false
set_option linter.unusedSimpArgs false
namespace Lw
open Go Go.RowKit
abbrev encPow (x : Nat × Nat) : Array Value := #[.agg #[.int .i64 (x.1 : Int), .int .i64 (x.2 : Int)]]
end Lw
namespace Go.Proofs.Ytafefengppiobaa
open Go.RowKit Go.Shelf
attribute [local go_sem] Oper.semAt_some

theorem powers1_seq (n c m : Nat) (w : World) (hn : 1 ≤ n) (hm1 : 1 ≤ m) (hm2 : m ≤ 1048576) (hb : w.heap[c]? = some (.cells #[.int .i64 (m : Int)] 2 (0, 0))) :
    Lw.CellSeq Fence.wide n Try.prog 41 #[.pointer (some ⟨c, 0, none⟩)] Lw.encPow c (Lw.fac m) w := by
  intro l J Jx W hW hJ hJx hY h0
  rw [hb] at hW
  clear hb
  refine callsIn_of_wp Try.func41 rfl trivial ?_ rfl
  simp only [Try.ntmps41, List.size_toArray, List.length_cons, List.length_nil, Nat.reduceAdd, Nat.reduceSub, Array.replicate_succ, Array.replicate_zero, List.push_toArray, List.append_toArray, List.nil_append, List.cons_append]
  have HY := Lib.hid hY
  have HJ := Lib.hid hJ
  have HW := Lib.hid hW
  clear hY hJ hW
  gi_wp2
  gi_loopw [3] (fun p wr => ∃ (pre : List (Nat × Nat)) (k m' : Nat), p = .int .i64 (k : Int) ∧ 2 ≤ k ∧ k ≤ 1048577 ∧ 1 ≤ m' ∧ m' ≤ 1048576 ∧ Hid (Lw.fac m = pre ++ Lw.fac m' ∧ Lw.NoBelow k m' ∧ wr.heap[c]? = some (.cells #[.int .i64 (m' : Int)] 2 (0, 0)) ∧ J pre wr))
    (fun p wr => match wr.cell? ⟨c, 0, none⟩ with | some (.int _ q) => if q ≤ 1 then 0 else (q - intOf p).toNat + 1 | _ => 0)
  case atStart => exact ⟨[], 2, m, rfl, by omega, by omega, by omega, by omega, rfl, Lw.NoBelow.two _, HW.out, h0⟩
  case round =>
    obtain ⟨pre, k, m', rfl, k1, k2, b1, b2, H⟩ := hrel
    have hc := cell_of_one H.out.2.2.1
    have hf := free_of_one H.out.2.2.1
    by_cases hm : m' = 1
    · subst hm
      gi_wp2
      go_end0
      refine ⟨⟨_, rfl⟩, .inl ?_⟩
      obtain ⟨h1, h2, h3, h4⟩ := H.out
      rw [Lw.fac_small (Nat.le_refl 1), List.append_nil] at h1
      rw [h1]; exact h4
    · have hm3 : 1 < m' := by omega
      clear hm
      obtain ⟨q1, q2⟩ := Lw.mul_bd' (k : Int) (k : Int) 1048577 (by omega) (by omega) (by omega) (by omega)
      have hH := hc
      by_cases hkk : (m' : Int) < (k : Int) * (k : Int)
      · have K2 : Hid (Lw.NoBelow m' m') := fun d h2 hd => by
          have := Lw.minFac_self (n := m') (p := k) (by omega) H.out.2.1 (by have := hkk; rw [← Int.natCast_mul] at this; omega)
          have h3 := Lw.minFac_le (n := m') (by omega) h2 hd
          omega
        have hm4 : 2 ≤ m' := by omega
        gi_wp2
        gi_loopw [4] (fun kk wr2 => ∃ (j m2 : Nat), kk = .int .i64 (j : Int) ∧ 1 ≤ m2 ∧ m2 ≤ m' ∧ j + m2 ≤ 1048577 ∧ Hid (Lw.vp m' m' = j + Lw.vp m' m2 ∧ Lw.strip m' m' = Lw.strip m' m2 ∧ wr2.heap[c]? = some (.cells #[.int .i64 (m2 : Int)] 2 (0, 0)) ∧ J pre wr2))
          (fun _ wr2 => match wr2.cell? ⟨c, 0, none⟩ with | some (.int _ q) => q.toNat | _ => 0)
        case atStart => exact ⟨0, m', rfl, by omega, by omega, by omega, by simp, rfl, H.out.2.2.1, H.out.2.2.2⟩
        case round =>
          obtain ⟨j, m2, rfl, n1, n2, n3, G⟩ := hrel
          have hc2 := cell_of_one G.out.2.2.1
          have hf2 := free_of_one G.out.2.2.1
          by_cases hd : m2 % m' = 0
          · have hd1 : ((m2 : Int) % (m' : Int) == 0) = true := by simp; omega
            have hdiv : m2 / m' < m2 := Nat.div_lt_self (by omega) (by omega)
            have hpos : 0 < m2 / m' := Nat.div_pos (Nat.le_of_dvd (by omega) (Nat.dvd_of_mod_eq_zero hd)) (by omega)
            have N : Hid (Lw.vp m' m' = j + 1 + Lw.vp m' (m2 / m') ∧ Lw.strip m' m' = Lw.strip m' (m2 / m') ∧ (wr.setCell ⟨c, 0, none⟩ (.int .i64 ((m2 : Int) / (m' : Int)))).heap[c]? = some (.cells #[.int .i64 ((m2 : Int) / (m' : Int))] 2 (0, 0)) ∧ J pre (wr.setCell ⟨c, 0, none⟩ (.int .i64 ((m2 : Int) / (m' : Int))))) := by
              obtain ⟨g1, g2, g3, g4⟩ := G.out
              refine ⟨?_, ?_, one_setCell g3, HJ.out _ _ _ (some c) g4 (grownBy_setCell' _ _ _) (fun r e => by cases e; rfl)⟩
              · rw [g1, Lw.vp_yes (by omega) (by omega) hd]; omega
              · rw [g2, Lw.strip_yes (by omega) (by omega) hd]
            have HM := Lib.hid hc2
            clear hd G
            gi_wp2
            go_roundw
            case rel =>
              obtain ⟨g1, g2, g3, g4⟩ := N.out
              exact ⟨j + 1, m2 / m', by go_num, hpos, by omega, by omega, g1, g2, by rw [Int.natCast_ediv]; exact g3, g4⟩
            case measure =>
              rw [cell_of_one N.out.2.2.1, HM.out]
              show ((m2 : Int) / (m' : Int)).toNat < ((m2 : Nat) : Int).toNat
              rw [← Int.natCast_ediv]; omega
          · have hd1 : ((m2 : Int) % (m' : Int) == 0) = false := by simp; omega
            have HG := Lib.hid hc2
            have E1 : Hid (j = Lw.vp m' m' ∧ m2 = Lw.strip m' m') := by
              obtain ⟨g1, g2, g3, g4⟩ := G.out
              rw [Lw.vp_no hd] at g1; rw [Lw.strip_no hd] at g2
              exact ⟨by omega, g2.symm⟩
            have K3 : Hid (Lw.NoBelow (m' + 1) m2) := by
              have := Lw.NoBelow.strip K2.out (by omega) (by omega : 0 < m')
              rw [← E1.out.2] at this
              exact this
            by_cases hj : j = 0
            · subst hj
              have hm22 : m2 = m' := by
                have := E1.out.1
                have := Lw.strip_spec m' (by omega) m' (by omega)
                rw [← E1.out.1, ← E1.out.2] at this
                have := this.1
                simp at this; omega
              subst hm22
              exfalso
              have := E1.out.1
              have h2 := Lw.vp_pos (p := m2) (n := m2) (by omega) (by omega) (Nat.mod_self m2)
              omega
            · have hj1 : (0 : Int) < (j : Int) := by omega
              have hmod : m' % m' = 0 := by
                by_cases h : m' % m' = 0
                · exact h
                · have := E1.out.1; rw [Lw.vp_no h] at this; omega
              have hfac : Lw.fac m' = (m', j) :: Lw.fac m2 := by
                rw [Lw.fac_step (by omega) (by omega) hmod K2.out, ← E1.out.1, ← E1.out.2]
              have hlt : m2 < m' := by rw [E1.out.2]; exact Lw.strip_lt (by omega) (by omega) hmod
              have hone : m2 ≤ 1 ∨ m' + 1 ≤ m2 := by
                by_cases h2 : 2 ≤ m2
                · exact .inr (K3.out m2 h2 (Nat.dvd_refl _))
                · exact .inl (by omega)
              have hF : Hid (Lw.fac m = (pre ++ [(m', j)]) ++ Lw.fac m2) := by
                have := H.out.1
                rw [hfac] at this
                show _ = _
                rw [this]; simp
              have HP : Hid (pre ++ [(m', j)] <+: Lw.fac m) := ⟨_, hF.out.symm⟩
              obtain ⟨fn, tmps, assign, body, hy, hR⟩ := HY.out pre (m', j) wr G.out.2.2.2 HP.out
              dsimp only [Lw.encPow] at hy
              have HB := Lib.hid G.out.2.2.1
              have HH := Lib.hid hH
              clear hd G hfac hmod hj
              gi_wp2
              refine hR.mono ?_
              rintro e W3 (⟨rfl, hJ3, hk3⟩ | ⟨rfl, hJx3⟩)
              · have hb3 := hk3.trans HB.out
                have hc3 := cell_of_one hb3
                have hf3 := free_of_one hb3
                have HB3 := Lib.hid hb3
                have HC3 := Lib.hid hc3
                clear hk3 hb3
                gi_wp2
                go_roundw
                case rel => exact ⟨pre ++ [(m', j)], m' + 1, m2, by go_num, by omega, by omega, by omega, by omega, hF.out, K3.out, HB3.out, hJ3⟩
                case measure =>
                  rw [HC3.out, HH.out]
                  simp only [intOf]
                  split <;> split <;> omega
              · gi_wp2
                refine bodyPost_ret (results_none rfl _ _ _) rfl ?_
                exact ⟨⟨_, rfl⟩, .inr ⟨pre ++ [(m', j)], HP.out, hJx3⟩⟩
      · have K2 := Lib.hid H.out.2.1
        have hkm : k < m' ∧ k ≤ 1048575 := by
          have h1 : (k : Int) * 2 ≤ (k : Int) * (k : Int) := Int.mul_le_mul_of_nonneg_left (by omega) (by omega)
          omega
        obtain ⟨hkm1, hkm2⟩ := hkm
        gi_wp2
        gi_loopw [4] (fun kk wr2 => ∃ (j m2 : Nat), kk = .int .i64 (j : Int) ∧ 1 ≤ m2 ∧ m2 ≤ m' ∧ j + m2 ≤ 1048577 ∧ Hid (Lw.vp k m' = j + Lw.vp k m2 ∧ Lw.strip k m' = Lw.strip k m2 ∧ wr2.heap[c]? = some (.cells #[.int .i64 (m2 : Int)] 2 (0, 0)) ∧ J pre wr2))
          (fun _ wr2 => match wr2.cell? ⟨c, 0, none⟩ with | some (.int _ q) => q.toNat | _ => 0)
        case atStart => exact ⟨0, m', rfl, by omega, by omega, by omega, by simp, rfl, H.out.2.2.1, H.out.2.2.2⟩
        case round =>
          obtain ⟨j, m2, rfl, n1, n2, n3, G⟩ := hrel
          have hc2 := cell_of_one G.out.2.2.1
          have hf2 := free_of_one G.out.2.2.1
          by_cases hd : m2 % k = 0
          · have hd1 : ((m2 : Int) % (k : Int) == 0) = true := by simp; omega
            have hdiv : m2 / k < m2 := Nat.div_lt_self (by omega) (by omega)
            have hpos : 0 < m2 / k := Nat.div_pos (Nat.le_of_dvd (by omega) (Nat.dvd_of_mod_eq_zero hd)) (by omega)
            have N : Hid (Lw.vp k m' = j + 1 + Lw.vp k (m2 / k) ∧ Lw.strip k m' = Lw.strip k (m2 / k) ∧ (wr.setCell ⟨c, 0, none⟩ (.int .i64 ((m2 : Int) / (k : Int)))).heap[c]? = some (.cells #[.int .i64 ((m2 : Int) / (k : Int))] 2 (0, 0)) ∧ J pre (wr.setCell ⟨c, 0, none⟩ (.int .i64 ((m2 : Int) / (k : Int))))) := by
              obtain ⟨g1, g2, g3, g4⟩ := G.out
              refine ⟨?_, ?_, one_setCell g3, HJ.out _ _ _ (some c) g4 (grownBy_setCell' _ _ _) (fun r e => by cases e; rfl)⟩
              · rw [g1, Lw.vp_yes (by omega) (by omega) hd]; omega
              · rw [g2, Lw.strip_yes (by omega) (by omega) hd]
            have HM := Lib.hid hc2
            clear hd G
            gi_wp2
            go_roundw
            case rel =>
              obtain ⟨g1, g2, g3, g4⟩ := N.out
              exact ⟨j + 1, m2 / k, by go_num, hpos, by omega, by omega, g1, g2, by rw [Int.natCast_ediv]; exact g3, g4⟩
            case measure =>
              rw [cell_of_one N.out.2.2.1, HM.out]
              show ((m2 : Int) / (k : Int)).toNat < ((m2 : Nat) : Int).toNat
              rw [← Int.natCast_ediv]; omega
          · have hd1 : ((m2 : Int) % (k : Int) == 0) = false := by simp; omega
            have HG := Lib.hid hc2
            have E1 : Hid (j = Lw.vp k m' ∧ m2 = Lw.strip k m') := by
              obtain ⟨g1, g2, g3, g4⟩ := G.out
              rw [Lw.vp_no hd] at g1; rw [Lw.strip_no hd] at g2
              exact ⟨by omega, g2.symm⟩
            have K3 : Hid (Lw.NoBelow (k + 1) m2) := by
              have := Lw.NoBelow.strip K2.out (by omega) (by omega : 0 < m')
              rw [← E1.out.2] at this
              exact this
            by_cases hj : j = 0
            · subst hj
              have hm22 : m2 = m' := by
                have := E1.out.1
                have := Lw.strip_spec k (by omega) m' (by omega)
                rw [← E1.out.1, ← E1.out.2] at this
                have := this.1
                simp at this; omega
              subst hm22
              gi_wp2
              refine ⟨fun _ h => (by cases h), ?_⟩
              gi_wp2
              go_roundw
              case rel => exact ⟨pre, k + 1, m2, by go_num, by omega, by omega, by omega, by omega, H.out.1, K3.out, G.out.2.2.1, G.out.2.2.2⟩
              case measure =>
                rw [HG.out, hH]
                simp only [intOf]
                split <;> omega
            · have hj1 : (0 : Int) < (j : Int) := by omega
              have hmod : m' % k = 0 := by
                by_cases h : m' % k = 0
                · exact h
                · have := E1.out.1; rw [Lw.vp_no h] at this; omega
              have hfac : Lw.fac m' = (k, j) :: Lw.fac m2 := by
                rw [Lw.fac_step (by omega) (by omega) hmod K2.out, ← E1.out.1, ← E1.out.2]
              have hlt : m2 < m' := by rw [E1.out.2]; exact Lw.strip_lt (by omega) (by omega) hmod
              have hone : m2 ≤ 1 ∨ k + 1 ≤ m2 := by
                by_cases h2 : 2 ≤ m2
                · exact .inr (K3.out m2 h2 (Nat.dvd_refl _))
                · exact .inl (by omega)
              have hF : Hid (Lw.fac m = (pre ++ [(k, j)]) ++ Lw.fac m2) := by
                have := H.out.1
                rw [hfac] at this
                show _ = _
                rw [this]; simp
              have HP : Hid (pre ++ [(k, j)] <+: Lw.fac m) := ⟨_, hF.out.symm⟩
              obtain ⟨fn, tmps, assign, body, hy, hR⟩ := HY.out pre (k, j) wr G.out.2.2.2 HP.out
              dsimp only [Lw.encPow] at hy
              have HB := Lib.hid G.out.2.2.1
              have HH := Lib.hid hH
              clear hd G hfac hmod hj
              gi_wp2
              refine hR.mono ?_
              rintro e W3 (⟨rfl, hJ3, hk3⟩ | ⟨rfl, hJx3⟩)
              · have hb3 := hk3.trans HB.out
                have hc3 := cell_of_one hb3
                have hf3 := free_of_one hb3
                have HB3 := Lib.hid hb3
                have HC3 := Lib.hid hc3
                clear hk3 hb3
                gi_wp2
                go_roundw
                case rel => exact ⟨pre ++ [(k, j)], k + 1, m2, by go_num, by omega, by omega, by omega, by omega, hF.out, K3.out, HB3.out, hJ3⟩
                case measure =>
                  rw [HC3.out, HH.out]
                  simp only [intOf]
                  split <;> split <;> omega
              · gi_wp2
                refine bodyPost_ret (results_none rfl _ _ _) rfl ?_
                exact ⟨⟨_, rfl⟩, .inr ⟨pre ++ [(k, j)], HP.out, hJx3⟩⟩
end Go.Proofs.Ytafefengppiobaa

/- The law PartsOpens: what all know together, or the code. -/
import Derived.Test.YtlgegdmnbhoepaaPao
import Derived.Test.YtlgegdmnbhoepaaRow
set_option linter.unusedVariables false
namespace Lw
/-- the law's code, over the shares -/
noncomputable def opnS (p t : Int) (ys : List Int) : Nat → Int
  | 0 => if pprE p = 0 then (if ParP p t then 0 else 2) else pprE p
  | k + 1 => if opnS p t ys k = 0 ∧ (ys.getD k 0 < 0 ∨ p ≤ ys.getD k 0) then 2 else opnS p t ys k
theorem opnS_bad {p t : Int} {ys : List Int} (h : ¬ opnS p t ys 0 = 0) : ∀ k, opnS p t ys k = opnS p t ys 0
  | 0 => rfl
  | k + 1 => by
    show (if opnS p t ys k = 0 ∧ _ then 2 else opnS p t ys k) = _
    rw [opnS_bad h k, if_neg (fun e => h e.1)]
theorem opnS_ok {p t : Int} {ys : List Int} (h : opnS p t ys 0 = 0) : ∀ k, k ≤ ys.length → opnS p t ys k = if outR p (ys.take k) = true then 2 else 0
  | 0, _ => by rw [h]; rfl
  | k + 1, hk => by
    show (if opnS p t ys k = 0 ∧ _ then 2 else opnS p t ys k) = _
    rw [opnS_ok h k (by omega)]
    have e : outR p (ys.take (k + 1)) = (outR p (ys.take k) || (decide (ys.getD k 0 < 0) || decide (p ≤ ys.getD k 0))) := by
      unfold outR
      rw [List.take_succ_eq_append_getElem (by omega), List.any_append, getD_at (by omega)]; simp
    rw [e]
    cases h1 : outR p (ys.take k) with
    | true => simp
    | false => simp
theorem opnS_end {p t : Int} {ys : List Int} : opnE p t ys = if opnS p t ys ys.length = 0 ∧ ¬ (ys.length : Int) = 2 * t + 1 then 4 else opnS p t ys ys.length := by
  by_cases h : pprE p = 0
  · by_cases h1 : ParP p t
    · have h0 : opnS p t ys 0 = 0 := by show (if pprE p = 0 then _ else _) = _; rw [if_pos h, if_pos h1]
      rw [opnS_ok h0 _ (Nat.le_refl _), List.take_length]
      cases h2 : outR p ys with
      | true => rw [opn_r h (.inr h2)]; rfl
      | false =>
        by_cases h3 : (ys.length : Int) = 2 * t + 1
        · rw [opn_0 h h1 h2 h3]; simp [h3]
        · rw [opn_f h h1 h2 h3]; simp [h3]
    · have h0 : opnS p t ys 0 = 2 := by show (if pprE p = 0 then _ else _) = _; rw [if_pos h, if_neg h1]
      rw [opnS_bad (by rw [h0]; decide), h0, opn_r h (.inl h1)]; simp
  · have h0 : opnS p t ys 0 = pprE p := by show (if pprE p = 0 then _ else _) = _; rw [if_neg h]
    rw [opnS_bad (by rw [h0]; exact h), h0, opn_p h, if_neg (fun e => h e.1)]
end Lw
namespace Go.Proofs.Ytlgegdmnbhoepaa.LW
open Go.RowKit
set_option maxRecDepth 100000 in
set_option maxHeartbeats 4000000 in
theorem PartsOpens (p t : Int) (A : Option Addr) (n c : Nat) (xs : List Int) (w : World) (wp : (Lit.int .i64 p).wf = true) (wt : (Lit.int .i64 t).wf = true) (h : Lw.IsRow .i64 w A n c xs) :
    Calls Try.prog 10 #[.int .i64 p, .int .i64 t, .slice A n c] w fun e w' => e = .returned (.bool true) ∧ Below w.heap.size w w' := by
  obtain ⟨R, n1, n2, n3, hw⟩ := h.rd
  generalize xs.take n = ys at *
  have hn : n ≤ 9223372036854775807 := Nat.le_trans n1 n3
  have X := Lib.hid (parts_Open p t A n c ys w R hn)
  have PC := Lib.hid (fun w => ref_PrimeCheck p w)
  have PP := Lib.hid (fun w => ref_PartiesCheck p t w)
  have LY := Lib.hid n2
  have S0 : Hid (Lw.opnS p t ys 0 = if Lw.pprE p = 0 then (if Lw.ParP p t then 0 else 2) else Lw.pprE p) := rfl
  have SN : Hid (∀ k, Lw.opnS p t ys (k + 1) = if Lw.opnS p t ys k = 0 ∧ (ys.getD k 0 < 0 ∨ p ≤ ys.getD k 0) then 2 else Lw.opnS p t ys k) := fun _ => rfl
  have EN : Hid (Lw.opnE p t ys = if Lw.opnS p t ys n = 0 ∧ ¬ (n : Int) = 2 * t + 1 then 4 else Lw.opnS p t ys n) := Lib.hid (by rw [Lw.opnS_end, n2])
  have OK := Lib.hid (fun h => Lw.opnS_ok (p := p) (t := t) (ys := ys) h)
  have BAD := Lib.hid (fun h => Lw.opnS_bad (p := p) (t := t) (ys := ys) h)
  have R := Lib.hid R
  clear h n1 n2 n3 hw wp wt
  -- behind the loop
  have TAIL : ∀ (e1 : Ending) (w1 : World), True := fun _ _ => trivial
  go_enter Try.func10, Try.ntmps10
  go_wp2_with fail
  refine X.out.mono ?_
  rintro e w1 ⟨X1, X2, hb1⟩
  by_cases hE : Lw.opnE p t ys = 0
  · replace X1 := X1 hE
    subst X1
    clear X2 X TAIL
    rw [EN.out] at hE
    have h1 : Lw.opnS p t ys n = 0 ∧ (n : Int) = 2 * t + 1 := by
      split at hE
      · cases hE
      · rename_i h; exact ⟨hE, Classical.byContradiction fun h2 => h ⟨hE, h2⟩⟩
    obtain ⟨h1, h2⟩ := h1
    have h3 : Lw.opnS p t ys 0 = 0 := Classical.byContradiction fun h => by have := BAD.out h n; rw [h1] at this; exact h this.symm
    have h4 := OK.out h3 n (by rw [LY.out]; exact Nat.le_refl _)
    rw [h1] at h4
    have h5 : Lw.outR p ys = false := by
      rw [List.take_of_length_le (by rw [LY.out]; exact Nat.le_refl _)] at h4
      cases h : Lw.outR p ys with
      | false => rfl
      | true => rw [h] at h4; cases h4
    have hb := Lib.hid (Lw.outR_in h5)
    have h6 : Lw.pprE p = 0 ∧ Lw.ParP p t := by
      rw [S0.out] at h3
      split at h3
      · rename_i h
        split at h3
        · rename_i h'; exact ⟨h, h'⟩
        · cases h3
      · rename_i h; exact absurd h3 h
    obtain ⟨h6, h7⟩ := h6
    obtain ⟨t1, t2, t3⟩ := h7
    obtain ⟨p1, p2, pp⟩ := Lw.ppr_ok h6
    have J0 := Lw.join_0 (Lw.opn_pts h6 ⟨t1, t2, t3⟩ h5 (by rw [LY.out]; exact h2))
    obtain ⟨_, l13, hLo⟩ := Lw.pts_ok J0.1
    have RJ := fun D g W (RD : Lw.Rd W 2 D n (Lw.pairsV .i64 .i64 (Lw.opL ys ys.length))) => ref_Join p D n g (Lw.opL ys ys.length) W RD p1 p2 pp l13 hLo
    rw [← Lw.join_eq p1 p2 pp hLo, Lw.opL_len] at RJ
    rw [LY.out] at RJ ⊢
    rw [h6] at PC
    have PP' := fun w => PP.out w
    rw [if_pos ⟨t1, t2, t3⟩] at PP'
    replace PP' := Lib.hid PP'
    replace RJ := Lib.hid RJ
    generalize Lw.hornV p (Lw.nst p (Lw.opL ys n) n).1 0 = v at *
    have OS := Lib.hid (fun k => Lw.opL_succ ys k)
    have LY := LY
    have n9 : n ≤ 9 := by omega
    clear hE h1 h3 h4 h5 h6 BAD OK EN SN S0 PP J0 l13 hLo pp
    go_wp2_with fail
    refine (PC.out _).mono ?_
    rintro e w2 ⟨rfl, rfl⟩
    go_wp2_with fail
    refine (PP'.out _).mono ?_
    rintro e w2 ⟨rfl, rfl⟩
    go_wp2_with fail
    go_loopw [9, 11, 31] (fun xv yv iv wr => ∃ k : Nat, iv = .int .i64 (k : Int) ∧ k ≤ n ∧ xv = .int .i64 0 ∧ wr = w1) (fun _ _ iv _ => n - (intOf iv).toNat)
    case atStart => exact ⟨0, rfl, by omega, rfl, by first | rfl | trivial⟩
    case round =>
      obtain ⟨k, rfl, hk, rfl, rfl⟩ := hrel
      obtain ⟨W0, hW0⟩ : ∃ W0, W0 = wr := ⟨_, rfl⟩
      subst hW0
      by_cases hlt : k < n
      · have hl : k < ys.length := by rw [LY.out]; exact hlt
        obtain ⟨ad, rfl, had, hcell⟩ := (R.out.below (Nat.le_refl _) hb1).at1 hlt (Lw.intsV_get hl)
        obtain ⟨y0, y1⟩ := hb.out _ (List.getElem_mem hl)
        obtain ⟨y, hy⟩ : ∃ y, ys[k] = y := ⟨_, rfl⟩
        rw [hy] at hcell y0 y1
        have y2 : ¬ y < 0 := by omega
        have y3 : ¬ p ≤ y := by omega
        have hlt' : (k : Int) < (n : Int) := by omega
        clear hy hl had
        go_wp2_with fail
        go_roundw
        case rel => exact ⟨k + 1, by go_num, by omega, rfl, by first | rfl | trivial⟩
        case measure => simp [intOf]; omega
      · have hkn : k = n := by omega
        subst hkn
        have z2 : ((k : Int) != 2 * t + 1) = false := by simpa using h2
        go_wp2_with fail
        have H2 := Lib.hid h2
        clear h2 z2
        go_loopw [12, 13, 14, 68] (fun lv iv yv xv wr => ∃ j : Nat, xv = .int .i64 (j : Int) ∧ j ≤ k ∧ wr.ownsRow W0.heap.size 66 2 lv j (Lw.pairsV .i64 .i64 (Lw.opL ys j)) ∧ Below W0.heap.size W0 wr) (fun _ _ _ xv _ => k - (intOf xv).toNat)
        case atStart => exact ⟨0, rfl, by omega, World.ownsRow_nil _ _ _ _, Below.refl _ _⟩
        case round =>
          obtain ⟨j, rfl, hj, own, hB⟩ := hrel
          by_cases hlj : j < k
          · have hl : j < ys.length := by rw [LY.out]; exact hlj
            obtain ⟨ad, rfl, had, hcell⟩ := (R.out.below (Nat.le_refl _) (Lw.bt hb1 hB)).at1 hlj (Lw.intsV_get hl)
            have OK := OS.out j
            rw [Lw.getD_at hl] at OK
            obtain ⟨y, hy⟩ : ∃ y, ys[j] = y := ⟨_, rfl⟩
            rw [hy] at hcell OK
            have OK := Lib.hid OK
            have OWN := Lib.hid own
            have hlt' : (j : Int) < 2 * t + 1 := by have := H2.out; omega
            clear hy hl own had
            go_wp2_with (at_builtin; refine Lw.wpList_app elPnv rfl _ _ rfl rfl (OWN.out.alloc _) rfl (by first | exact Lw.Rd.nil _ _ _ | exact Lw.Rd.lit (Lw.blk_new' (by simp) _ _) rfl rfl | exact Lw.Rd.lit (Lw.blk_alloc (Lw.blk_new' (by simp) _ _) _) rfl rfl) (Lw.one2 .i64 .i64 _ _) (by omega) (Lw.balloc hB _) (Nat.le_refl _) (by have := hB.size; simp; omega) ?_; intro v2 w5 own5 hb5 _ _)
            have O5 := Lib.hid own5
            clear own5
            go_wp2_with fail
            go_roundw
            case rel => exact ⟨j + 1, by go_num, by omega, by rw [OK.out, Lw.pairsV_append]; exact O5.out, hb5⟩
            case measure => simp [intOf]; omega
          · have hkn : j = k := by omega
            subst hkn
            obtain ⟨D, g, rfl, _⟩ := Lw.ownsForm own
            have RX := Lib.hid (RJ.out D g _ (Lw.Rd.of_own own))
            have hlt' : ¬ (j : Int) < 2 * t + 1 := by have := H2.out; omega
            clear own
            go_wp2_with fail
            refine RX.out.mono ?_
            rintro e w6 ⟨rfl, hb6⟩
            go_wp2_with fail
            go_ret
            exact ⟨by simp, Lw.bt (Lw.bt hb1 hB) hb6⟩
  · replace X2 := X2 hE
    subst X2
    clear X1 X TAIL
    have zE : (Lw.opnE p t ys != 0) = true := by simpa using hE
    have zE' : (Lw.opnE p t ys == 0) = false := by simpa using hE
    generalize Lw.opnE p t ys = E at *
    go_wp2_with fail
    refine (PC.out _).mono ?_
    rintro e w2 ⟨rfl, rfl⟩
    have LOOP : ∀ k, k < n → ∃ (ad : Addr) (y : Int), A = some ad ∧ w1.cell? (ad.add k) = some (.int .i64 y) ∧ ad.block < w1.heap.size ∧ ys.getD k 0 = y := fun k hk => by
      have hl : k < ys.length := by rw [LY.out]; exact hk
      obtain ⟨ad, h1, had, hcell⟩ := (R.out.below (Nat.le_refl _) hb1).at1 hk (Lw.intsV_get hl)
      exact ⟨ad, ys[k], h1, hcell, had, Lw.getD_at hl⟩
    have LOOP := Lib.hid LOOP
    have BT : Hid (Lw.opnS p t ys n = 0 → 0 ≤ t ∧ t ≤ 4) := Lib.hid fun h => by
      have h3 : Lw.opnS p t ys 0 = 0 := Classical.byContradiction fun h' => by have := BAD.out h' n; rw [h] at this; exact h' this.symm
      rw [S0.out] at h3
      split at h3
      · split at h3
        · rename_i h'; exact ⟨h'.1, h'.2.1⟩
        · cases h3
      · rename_i h'; exact absurd h3 h'
    have BP : Hid (¬ Lw.pprE p = 0 → E = Lw.pprE p) := Lib.hid fun h => by
      have h3 : Lw.opnS p t ys 0 = Lw.pprE p := by rw [S0.out, if_neg h]
      have h4 := BAD.out (by rw [h3]; exact h) n
      rw [EN.out, h4, h3, if_neg (fun e => h e.1)]
    clear R LY OK BAD
    by_cases h0 : Lw.pprE p = 0
    · rw [h0]
      rw [if_pos h0] at S0
      have zP : ((0 : Int) == 0) = true := rfl
      go_wp2_with fail
      refine (PP.out _).mono ?_
      rintro e w2 ⟨rfl, rfl⟩
      rw [← S0.out]
      clear S0 PP PC h0
      go_wp2_with fail
      go_loopw [9, 11, 31] (fun xv yv iv wr => ∃ k : Nat, iv = .int .i64 (k : Int) ∧ k ≤ n ∧ xv = .int .i64 (Lw.opnS p t ys k) ∧ wr = w1) (fun _ _ iv _ => n - (intOf iv).toNat)
      case atStart => exact ⟨0, rfl, by omega, rfl, by first | rfl | trivial⟩
      case round =>
        obtain ⟨k, rfl, hk, rfl, rfl⟩ := hrel
        by_cases hlt : k < n
        · obtain ⟨ad, y, rfl, hcell, had, hy⟩ := LOOP.out k hlt
          have hn1 := SN.out k
          rw [hy] at hn1
          have hlt' : (k : Int) < (n : Int) := by omega
          generalize Lw.opnS p t ys k = v at *
          by_cases hv : v = 0
          · by_cases h1 : y < 0
            · rw [if_pos ⟨hv, .inl h1⟩] at hn1
              have zv : (v == 0) = true := by simpa using hv
              have N := Lib.hid hn1
              clear hn1 hv hy
              go_wp2_with fail
              go_roundw
              case rel => exact ⟨k + 1, by go_num, by omega, by rw [N.out], by first | rfl | trivial⟩
              case measure => simp [intOf]; omega
            · by_cases h2 : p ≤ y
              · rw [if_pos ⟨hv, .inr h2⟩] at hn1
                have zv : (v == 0) = true := by simpa using hv
                have N := Lib.hid hn1
                clear hn1 hv hy
                go_wp2_with fail
                go_roundw
                case rel => exact ⟨k + 1, by go_num, by omega, by rw [N.out], by first | rfl | trivial⟩
                case measure => simp [intOf]; omega
              · rw [if_neg (fun h => by rcases h.2 with h | h; exact h1 h; exact h2 h)] at hn1
                have zv : (v == 0) = true := by simpa using hv
                have N := Lib.hid hn1
                clear hn1 hv hy
                go_wp2_with fail
                go_roundw
                case rel => exact ⟨k + 1, by go_num, by omega, by rw [N.out], by first | rfl | trivial⟩
                case measure => simp [intOf]; omega
          · rw [if_neg (fun h => hv h.1)] at hn1
            have zv : (v == 0) = false := by simpa using hv
            have N := Lib.hid hn1
            clear hn1 hv hy
            go_wp2_with fail
            go_roundw
            case rel => exact ⟨k + 1, by go_num, by omega, by rw [N.out], by first | rfl | trivial⟩
            case measure => simp [intOf]; omega
        · have hkn : k = n := by omega
          subst hkn
          have en := EN.out
          generalize Lw.opnS p t ys k = v at *
          by_cases hv : v = 0
          · by_cases h2 : (k : Int) = 2 * t + 1
            · rw [if_neg (fun h => h.2 h2)] at en
              exact absurd (en.trans hv) hE
            · rw [if_pos ⟨hv, h2⟩] at en
              have zv : (v == 0) = true := by simpa using hv
              have z2 : ((k : Int) != 2 * t + 1) = true := by simpa using h2
              obtain ⟨t1, t2⟩ := BT.out hv
              subst en
              clear EN SN hE hv h2 BT
              go_wp2_with fail
              go_ret
              exact ⟨by simp, hb1⟩
          · rw [if_neg (fun h => hv h.1)] at en
            have zv : (v == 0) = false := by simpa using hv
            have zv2 : (v != 0) = true := by simpa using hv
            have EV := Lib.hid en
            subst en
            clear EN SN hE hv
            go_wp2_with fail
            go_ret
            exact ⟨by simp, hb1⟩
    · have ep := BP.out h0
      have zP : (Lw.pprE p == 0) = false := by simpa using h0
      have zP2 : (Lw.pprE p != 0) = true := by simpa using h0
      clear BP BT EN SN S0 PC PP
      generalize Lw.pprE p = F at *
      subst ep
      clear hE h0
      go_wp2_with fail
      go_loopw [9, 11, 31] (fun xv yv iv wr => ∃ k : Nat, iv = .int .i64 (k : Int) ∧ k ≤ n ∧ xv = .int .i64 E ∧ wr = w1) (fun _ _ iv _ => n - (intOf iv).toNat)
      case atStart => exact ⟨0, rfl, by omega, rfl, by first | rfl | trivial⟩
      case round =>
        obtain ⟨k, rfl, hk, rfl, rfl⟩ := hrel
        by_cases hlt : k < n
        · obtain ⟨ad, y, rfl, hcell, had, hy⟩ := LOOP.out k hlt
          have hlt' : (k : Int) < (n : Int) := by omega
          clear hy
          go_wp2_with fail
          go_roundw
          case rel => exact ⟨k + 1, by go_num, by omega, rfl, by first | rfl | trivial⟩
          case measure => simp [intOf]; omega
        · have hkn : k = n := by omega
          subst hkn
          go_wp2_with fail
          go_ret
          exact ⟨by simp, hb1⟩
end Go.Proofs.Ytlgegdmnbhoepaa.LW

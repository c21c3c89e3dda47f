/- The reference's can walked. -/
import Derived.Test.YtafefengppiobaaKShiftShort0
import Derived.Test.YtafefengppiobaaKShiftShort1
namespace Lw
open Go Go.RowKit
def rowVB (m : Nat) (r : Option Addr × Nat) : Value := .slice r.1 m r.2
theorem rowB_one (C : Option Addr) (m g : Nat) : ∀ u ∈ [Value.slice C m g], u.oneCell' = true := by intro u hu; simp at hu; subst hu; rfl
theorem getL_at {rows : List (List Bool)} {j : Nat} (h : j < rows.length) : rows.getD j [] = rows[j] := by rw [List.getD_eq_getElem?_getD, List.getElem?_eq_getElem h]; rfl
theorem lhsN_succ (l : List Bool) (b n j : Nat) : lhsN l b n (j + 1) = lhsN l b n j ++ [lx l (n - (b + j) - 1)] := by unfold lhsN; rw [List.range_succ, List.map_append]; rfl
theorem rowsN_succ (l beg : List Bool) (taps k : Nat) : rowsN l beg taps (k + 1) = rowsN l beg taps k ++ [rowN l beg taps (taps + k)] := by unfold rowsN; rw [List.range_succ, List.map_append]; rfl
theorem rowsN_length (l beg : List Bool) (taps k : Nat) : (rowsN l beg taps k).length = k := by simp [rowsN]
theorem nxtT_len_le (rows : List (List Bool)) (a c : Nat) : ∀ k, (nxtT rows a c k).length ≤ k
  | 0 => Nat.le_refl _
  | k + 1 => by
    have := nxtT_len_le rows a c k
    unfold nxtT
    split
    · omega
    · rw [List.length_append, List.length_singleton]; omega
theorem elM_len_le {rows : List (List Bool)} : ∀ c, (elM rows c).length ≤ rows.length
  | 0 => Nat.le_refl _
  | c + 1 => by
    have := elM_len_le (rows := rows) c
    show (stepM (elM rows c) c).length ≤ _
    unfold stepM
    split
    · exact Nat.le_trans (nxtT_len_le _ _ _ _) this
    · exact this
end Lw
set_option linter.unusedVariables false
set_option linter.unusedSimpArgs false
namespace Go.Proofs.Ytafefengppiobaa
open Go.RowKit
theorem elRowB : Lw.El Try.prog 59 22 (.slice none 0 0) 1 24 := Lw.El.mk' Try.underlying59 (by kernel_rfl) rfl (by decide) (by decide)
/-- rows of the call's own -/
def BlT (base m : Nat) (v : Value) (T : List (Option Addr × Nat)) (rows : List (List Bool)) (wr : World) : Prop := T.length = rows.length ∧ wr.ownsRow base 22 1 v rows.length (T.map (Lw.rowVB m)) ∧ ∀ j (h : j < T.length), wr.ownsRow base 4 1 (Lw.rowVB m T[j]) m (Lw.bsV (rows.getD j []))
def BlS (base m : Nat) (v : Value) (rows : List (List Bool)) (wr : World) : Prop := ∃ T, BlT base m v T rows wr
def RowsB (w : World) (A : Option Addr) (m : Nat) (rows : List (List Bool)) : Prop := ∃ T : List (Option Addr × Nat), T.length = rows.length ∧ Lw.Rd w 1 A rows.length (T.map (Lw.rowVB m)) ∧ ∀ j (h : j < T.length), Lw.Rd w 1 T[j].1 m (Lw.bsV (rows.getD j []))
theorem RowsB.below {w w' : World} {A : Option Addr} {m : Nat} {rows : List (List Bool)} (h : RowsB w A m rows) (hb : Below w.heap.size w w') : RowsB w' A m rows := by
  obtain ⟨T, h1, h2, h3⟩ := h
  exact ⟨T, h1, h2.below (Nat.le_refl _) hb, fun j hj => (h3 j hj).below (Nat.le_refl _) hb⟩
theorem BlS.rows {base m : Nat} {v : Value} {rows : List (List Bool)} {w : World} (h : BlS base m v rows w) : ∃ A c, v = .slice A rows.length c ∧ RowsB w A m rows := by
  obtain ⟨T, h1, h2, h3⟩ := h
  obtain ⟨A, c, rfl, _⟩ := Lw.ownsForm h2
  exact ⟨A, c, rfl, T, h1, Lw.Rd.of_own h2, fun j hj => Lw.Rd.of_own (h3 j hj)⟩
/-- a row and a cell of it -/
theorem RowsB.at {w : World} {A : Option Addr} {m : Nat} {rows : List (List Bool)} (h : RowsB w A m rows) (hL : ∀ r ∈ rows, r.length = m) {k : Nat} (hk : k < rows.length) : ∃ (ad : Addr) (B : Option Addr) (c : Nat), A = some ad ∧ ad.block < w.heap.size ∧ w.cell? (ad.add k) = some (.slice B m c) ∧ ∀ i, i < m → ∃ bd : Addr, B = some bd ∧ bd.block < w.heap.size ∧ w.cell? (bd.add i) = some (.bool (Lw.rg (rows.getD k []) i)) := by
  obtain ⟨T, h1, h2, h3⟩ := h
  have hkT : k < T.length := by omega
  obtain ⟨ad, rfl, had, c0⟩ := h2.at1 hk (show (T.map (Lw.rowVB m))[k]? = some (Lw.rowVB m T[k]) by rw [List.getElem?_map, List.getElem?_eq_getElem hkT]; rfl)
  refine ⟨ad, T[k].1, T[k].2, rfl, had, c0, fun i hi => ?_⟩
  have hl : (rows.getD k []).length = m := hL _ (Lw.getD_mem hk)
  obtain ⟨bd, e, hbd, c1⟩ := (h3 k hkT).at1 hi (Lw.bsV_get (by omega : i < (rows.getD k []).length))
  refine ⟨bd, e, hbd, ?_⟩
  rw [c1]
  unfold Lw.rg
  rw [List.getD_eq_getElem?_getD (l := rows.getD k []), List.getElem?_eq_getElem (by omega)]; rfl
theorem bl_next {base m g : Nat} {l l' : Value} {T : List (Option Addr × Nat)} {rows : List (List Bool)} {C : Option Addr} {r : List Bool} {W W' W'' : World} {o : Obj} (h : BlT base m l T rows W) (hT : Below W.heap.size W W') (row : W'.ownsRow base 4 1 (.slice C m g) m (Lw.bsV r))
    (own : W''.ownsRow base 22 1 l' (rows.length + 1) (T.map (Lw.rowVB m) ++ [.slice C m g])) (hg : (W'.alloc o).grownBy W'' l.ownBlock) : BlT base m l' (T ++ [(C, g)]) (rows ++ [r]) W'' := by
  obtain ⟨h1, h2, h3⟩ := h
  have OL := (Lw.ownsBelow h2 (Nat.le_refl _) hT).alloc o
  refine ⟨by simp [h1], by rw [List.length_append]; simpa [Lw.rowVB] using own, fun j hj => ?_⟩
  simp only [List.length_append, List.length_singleton] at hj
  by_cases hlt : j < T.length
  · have e1 : (rows ++ [r]).getD j [] = rows.getD j [] := by
      rw [List.getD_eq_getElem?_getD, List.getD_eq_getElem?_getD, List.getElem?_append_left (by omega)]
    simp only [e1, List.getElem_append_left hlt]
    exact Lw.own_keep' ((Lw.ownsBelow (h3 j hlt) (Nat.le_refl _) hT).alloc o) OL (by decide) hg
  · have hjk : j = T.length := by omega
    subst hjk
    have e1 : (rows ++ [r]).getD T.length [] = r := by
      rw [List.getD_eq_getElem?_getD, List.getElem?_append_right (by omega), h1]; simp
    have e2 : (T ++ [(C, g)])[T.length]'(by simp) = (C, g) := by simp
    simp only [e1, e2]
    exact Lw.own_keep' (row.alloc o) OL (by decide) hg
set_option maxRecDepth 100000 in
set_option maxHeartbeats 8000000 in
theorem ref_can (A B : Option Addr) (N nb c d taps : Nat) (l beg : List Bool) (w : World) (RA : Lw.Rd w 1 A N (Lw.bsV l)) (RB : Lw.Rd w 1 B nb (Lw.bsV beg)) (hN : N ≤ 64) (hb : nb ≤ taps) (ht : taps ≤ N) :
    Calls Try.prog 13 #[.slice A N c, .slice B nb d, .int .i64 (taps : Int)] w fun e w' => e = .returned (.bool (Lw.canB l beg taps)) ∧ Below w.heap.size w w' := by
  have la : l.length = N := by have := RA.1; rw [Lw.bsV_length] at this; omega
  have lb : beg.length = nb := by have := RB.1; rw [Lw.bsV_length] at this; omega
  have RA := Lib.hid RA
  have RB := Lib.hid RB
  have LA := Lib.hid la
  have LB := Lib.hid lb
  obtain ⟨u, hu⟩ : ∃ u, taps - nb = u := ⟨_, rfl⟩
  have RN := Lib.hid (fun k => Lw.rowsN_succ l beg taps k)
  have RNL := Lib.hid (fun k => Lw.rowsN_length l beg taps k)
  have RHS : Hid (∀ n i, Lw.rhsN l beg n (i + 1) = if beg.getD i false && Lw.lx l (n - i - 1) then !(Lw.rhsN l beg n i) else Lw.rhsN l beg n i) := fun _ _ => rfl
  have LHS := Lib.hid (fun n j => Lw.lhsN_succ l nb n j)
  have ROW : Hid (∀ n, Lw.rowN l beg taps n = Lw.lhsN l nb n u ++ [Lw.rhsN l beg n nb]) := fun n => by unfold Lw.rowN; rw [lb, hu]
  have R0 : Hid (∀ n, Lw.rhsN l beg n 0 = Lw.lx l n) := fun _ => rfl
  have LEN := Lib.hid (fun c (h : c ≤ u) => (Lw.elM_all (rows := Lw.rowsN l beg taps (N - taps)) (u := u) (by have := Lw.rowsN_len l beg taps (N - taps); rw [lb, hu] at this; exact this) c h).1)
  have ELL := Lib.hid (fun c => by have := Lw.elM_len_le (rows := Lw.rowsN l beg taps (N - taps)) c; rw [Lw.rowsN_length] at this; exact this)
  have ELS : Hid (∀ c, Lw.elM (Lw.rowsN l beg taps (N - taps)) (c + 1) = Lw.stepM (Lw.elM (Lw.rowsN l beg taps (N - taps)) c) c) := fun _ => rfl
  have EL0 : Hid (Lw.elM (Lw.rowsN l beg taps (N - taps)) 0 = Lw.rowsN l beg taps (N - taps)) := rfl
  have CB : Hid (Lw.canB l beg taps = (Lw.elM (Lw.rowsN l beg taps (N - taps)) u).all fun r => !(Lw.rg r u)) := by unfold Hid Lw.canB; rw [la, lb, hu]
  clear la lb
  go_enter Try.func13, Try.ntmps13
  go_wp2_with fail
  go_loopw [7, 8] (fun v i wr => ∃ k : Nat, i = .int .i64 ((taps + k : Nat) : Int) ∧ taps + k ≤ N ∧ BlS w.heap.size (u + 1) v (Lw.rowsN l beg taps k) wr ∧ Below w.heap.size w wr) (fun _ i _ => N - (intOf i).toNat)
  case atStart => exact ⟨0, rfl, by omega, ⟨[], rfl, World.ownsRow_nil _ _ _ _, fun j h => by cases h⟩, Below.refl _ _⟩
  case round =>
    obtain ⟨k, rfl, hk, hBl, hB⟩ := hrel
    obtain ⟨n, hn⟩ : ∃ n, taps + k = n := ⟨_, rfl⟩
    rw [hn] at hk ⊢
    have hnm : n < N ∨ ¬ n < N := by omega
    obtain ⟨wn, hwn⟩ : ∃ wn, wn = wr := ⟨_, rfl⟩
    subst hwn
    have hzn := hB.size
    rcases hnm with hlt | hlt
    · have hlt' : (n : Int) < (N : Int) := by omega
      obtain ⟨T, hT⟩ := hBl
      have HT := Lib.hid hT
      have hln : n < l.length := by rw [LA.out]; exact hlt
      obtain ⟨ad, rfl, had, ln⟩ := (RA.out.below (Nat.le_refl _) hB).at1 hlt (Lw.bsV_get hln)
      rw [← Lw.lx_get hln] at ln
      clear hT
      go_wp2_with fail
      go_loopw [9, 10, 11] (fun r b i wr => ∃ i' : Nat, i = .int .i64 (i' : Int) ∧ i' ≤ taps ∧ b = .bool (Lw.rhsN l beg n (min i' nb)) ∧ wr.ownsRow wn.heap.size 4 1 r (i' - nb) (Lw.bsV (Lw.lhsN l nb n (i' - nb))) ∧ Below wn.heap.size wn wr) (fun _ _ i _ => taps - (intOf i).toNat)
      case atStart => exact ⟨0, rfl, by omega, by rw [Nat.zero_min, R0.out], by rw [Nat.zero_sub]; exact World.ownsRow_nil _ _ _ _, Below.refl _ _⟩
      case round =>
        obtain ⟨i, rfl, hi, rfl, own, hZ⟩ := hrel
        have hzr := hZ.size
        have him : i < taps ∨ ¬ i < taps := by omega
        rcases him with hil | hil
        · have hil' : (i : Int) < (taps : Int) := by omega
          have e1 : IntKind.i64.wrap ((n : Int) - (i : Int)) = ((n - i : Nat) : Int) := by rw [IntKind.wrap_i64]; omega
          have e2 : IntKind.i64.wrap (((n - i : Nat) : Int) - 1) = ((n - i - 1 : Nat) : Int) := by rw [IntKind.wrap_i64]; omega
          have hlj : n - i - 1 < l.length := by have := LA.out; omega
          have hB2 : Below w.heap.size w wr := Lw.bt hB hZ
          obtain ⟨ae, e4, hae, lj⟩ := (RA.out.below (Nat.le_refl _) hB2).at1 (show n - i - 1 < N by omega) (Lw.bsV_get hlj)
          injection e4 with e4
          subst e4
          rw [← Lw.lx_get hlj] at lj
          have hij : ((n - i - 1 : Nat) : Int) < (N : Int) := by omega
          by_cases hib : i < nb
          · have hib' : (i : Int) < (nb : Int) := by omega
            have RH := RHS.out n i
            rw [show min i nb = i from by omega]
            have hlb : i < beg.length := by rw [LB.out]; exact hib
            obtain ⟨be, rfl, hbe, bj⟩ := (RB.out.below (Nat.le_refl _) hB2).at1 hib (Lw.bsV_get hlb)
            rw [show beg.getD i false = beg[i] from by rw [List.getD_eq_getElem?_getD, List.getElem?_eq_getElem hlb]; rfl] at RH
            generalize beg[i] = bv at *
            generalize Lw.lx l (n - i - 1) = lv at *
            generalize Lw.rhsN l beg n i = rv at *
            have em : min (i + 1) nb = i + 1 := by omega
            have es : i + 1 - nb = i - nb := by omega
            have OWN := Lib.hid own
            clear own
            cases bv with
            | false =>
              have RH : Hid (Lw.rhsN l beg n (i + 1) = rv) := Lib.hid (by rw [RH]; rfl)
              go_wp2_with fail
              go_roundw
              case rel => exact ⟨i + 1, by go_num, by omega, by rw [em, RH.out], by rw [es]; exact OWN.out, hZ⟩
              case measure => simp [intOf]; omega
            | true => cases lv with
              | false =>
                have RH : Hid (Lw.rhsN l beg n (i + 1) = rv) := Lib.hid (by rw [RH]; rfl)
                go_wp2_with fail
                go_roundw
                case rel => exact ⟨i + 1, by go_num, by omega, by rw [em, RH.out], by rw [es]; exact OWN.out, hZ⟩
                case measure => simp [intOf]; omega
              | true =>
                have RH : Hid (Lw.rhsN l beg n (i + 1) = !rv) := Lib.hid (by rw [RH]; rfl)
                go_wp2_with fail
                go_roundw
                case rel => exact ⟨i + 1, by go_num, by omega, by rw [em, RH.out], by rw [es]; exact OWN.out, hZ⟩
                case measure => simp [intOf]; omega
          · have hib' : ¬ (i : Int) < (nb : Int) := by omega
            have em : min (i + 1) nb = min i nb := by omega
            have es : i + 1 - nb = i - nb + 1 := by omega
            have LH := LHS.out n (i - nb)
            rw [show n - (nb + (i - nb)) - 1 = n - i - 1 from by omega] at LH
            generalize Lw.lx l (n - i - 1) = lv at *
            have LH := Lib.hid LH
            have OWN := Lib.hid own
            clear own
            go_wp2_with (at_builtin; go_loud (refine Lw.wpList_app elBol rfl _ _ rfl rfl (OWN.out.alloc _) rfl (by first | exact Lw.Rd.nil _ _ _ | exact Lw.Rd.lit (Lw.blk_new' (by simp) _ _) rfl rfl | exact Lw.Rd.lit (Lw.blk_alloc (Lw.blk_new' (by simp) _ _) _) rfl rfl) (Lw.oneb _) (by omega) (Lw.balloc hZ _) (Nat.le_refl _) (by simp; omega) ?_); intro v2 w2 own2 hb2 _ _)
            have O2 := Lib.hid own2
            clear own2
            go_wp2_with fail
            go_roundw
            case rel => exact ⟨i + 1, by go_num, by omega, by rw [em], by rw [es, LH.out, Lw.bsV_app]; exact O2.out, hb2⟩
            case measure => simp [intOf]; omega
        · have hil' : ¬ (i : Int) < (taps : Int) := by omega
          have hie : i = taps := by omega
          rw [hie, hu] at own
          rw [hie, show min taps nb = nb from by omega]
          have ROWn := ROW.out n
          have RNk := RN.out k
          rw [hn, ROWn] at RNk
          have RNLk := RNL.out k
          have en : IntKind.i64.wrap ((n : Int) + 1) = (n : Int) + 1 := by rw [IntKind.wrap_i64]; omega
          generalize Lw.rhsN l beg n nb = rv at *
          have OWN := Lib.hid own
          have HZ := Lib.hid hZ
          have RNk := Lib.hid RNk
          clear own
          go_wp2_with (first
            | (at_builtin; go_loud (refine Lw.wpList_app elBol rfl _ _ rfl rfl (OWN.out.alloc _) rfl (by first | exact Lw.Rd.nil _ _ _ | exact Lw.Rd.lit (Lw.blk_new' (by simp) _ _) rfl rfl | exact Lw.Rd.lit (Lw.blk_alloc (Lw.blk_new' (by simp) _ _) _) rfl rfl) (Lw.oneb _) (by omega) (Lw.balloc HZ.out _) (Nat.le_refl _) (by simp; omega) ?_); intro v2 w2 own2 hb2 _ _; obtain ⟨C2, g2, rfl, _⟩ := Lw.ownsForm own2; have O2 := Lib.hid own2; have hz2 := hb2.size; clear own2)
            | (at_builtin; go_loud (refine Lw.wpList_app elRowB rfl _ _ rfl rfl ((Lw.ownsBelow HT.out.2.1 (Nat.le_refl _) hb2).alloc _) rfl (by first | exact Lw.Rd.nil _ _ _ | exact Lw.Rd.lit (Lw.blk_new' (by simp) _ _) rfl rfl | exact Lw.Rd.lit (Lw.blk_alloc (Lw.blk_new' (by simp) _ _) _) rfl rfl) (Lw.rowB_one _ _ _) (by omega) (Lw.balloc (Lw.bt hB hb2) _) (Nat.le_refl _) (by simp; omega) ?_); intro v3 w3 own3 hb3 hg3 _))
          have FIN : Hid (BlS w.heap.size (u + 1) v3 (Lw.rowsN l beg taps (k + 1)) w3) := Lib.hid (by rw [RNk.out]; exact ⟨_, bl_next HT.out hb2 (by rw [Lw.bsV_app]; exact Lw.ownsBase O2.out (by omega)) own3 hg3⟩)
          clear own3 hg3
          go_wp2_with fail
          go_roundw
          case rel => exact ⟨k + 1, by rw [show taps + (k + 1) = n + 1 from by omega]; go_num, by omega, FIN.out, hb3⟩
          case measure => simp [intOf]; omega
    · have hlt' : ¬ (n : Int) < (N : Int) := by omega
      have hke : k = N - taps := by omega
      rw [hke] at hBl
      obtain ⟨AR, cR, rfl, hRows⟩ := hBl.rows
      clear hBl
      have ESZ : ((taps : Int) - (nb : Int)) = (u : Int) := by omega
      have eu : IntKind.i64.wrap ((taps : Int) - (nb : Int)) = (u : Int) := by rw [IntKind.wrap_i64]; omega
      have hu64 : u ≤ 64 := by omega
      go_wp2_with fail
      go_loopw [7, 12] (fun v ci wr => ∃ (c : Nat) (A : Option Addr) (cp : Nat), ci = .int .i64 (c : Int) ∧ c ≤ u ∧ v = .slice A (Lw.elM (Lw.rowsN l beg taps (N - taps)) c).length cp ∧ Hid (RowsB wr A (u + 1) (Lw.elM (Lw.rowsN l beg taps (N - taps)) c)) ∧ Below w.heap.size w wr) (fun _ ci _ => u - (intOf ci).toNat)
      case atStart => exact ⟨0, AR, cR, rfl, by omega, rfl, hRows, hB⟩
      case round =>
        obtain ⟨c, A1, cp, rfl, hc, rfl, RB1, hBc⟩ := hrel
        obtain ⟨wc, hwc⟩ : ∃ wc, wc = wr := ⟨_, rfl⟩
        subst hwc
        have LM := Lib.hid (LEN.out c hc)
        have ML := ELL.out c
        have MS := ELS.out c
        have CBu : c = u → Lw.canB l beg taps = (Lw.elM (Lw.rowsN l beg taps (N - taps)) c).all (fun r => !(Lw.rg r c)) := fun e => by have h := CB.out; rw [← e] at h; exact h
        obtain ⟨M2, hM2⟩ : ∃ M2, Lw.elM (Lw.rowsN l beg taps (N - taps)) (c + 1) = M2 := ⟨_, rfl⟩
        rw [hM2] at MS
        have HM2 := Lib.hid hM2
        clear hM2
        generalize Lw.elM (Lw.rowsN l beg taps (N - taps)) c = M at *
        have hcm : c < u ∨ ¬ c < u := by omega
        have hM64 : M.length ≤ 64 := by omega
        rcases hcm with hcl | hcl
        · have hcl' : (c : Int) < (u : Int) := by omega
          have ec : IntKind.i64.wrap ((c : Int) + 1) = (c : Int) + 1 := by rw [IntKind.wrap_i64]; omega
          go_wp2_with fail
          go_loop [13, 14] (fun a ki => ∃ k : Nat, ki = .int .i64 (k : Int) ∧ k ≤ M.length ∧ a = .int .i64 (match Lw.atM M c k with | some x => (x : Int) | none => -1)) (fun _ ki => M.length - (intOf ki).toNat)
          case atStart => exact ⟨0, rfl, by omega, rfl⟩
          case round =>
            obtain ⟨k, rfl, hk, rfl⟩ := hrel
            have hkm : k < M.length ∨ ¬ k < M.length := by omega
            rcases hkm with hkl | hkl
            · have hkl' : (k : Int) < (M.length : Int) := by omega
              obtain ⟨ad, B1, c1, rfl, had, q0, qc⟩ := RB1.out.at LM.out hkl
              obtain ⟨bd, rfl, hbd, q1⟩ := qc c (by omega)
              have AT : Lw.atM M c (k + 1) = (match Lw.atM M c k with | some a => some a | none => if Lw.rg (M.getD k []) c then some k else none) := rfl
              generalize Lw.rg (M.getD k []) c = bv at *
              cases hat : Lw.atM M c k with
              | some x =>
                rw [hat] at AT
                have AT := Lib.hid AT
                have hx0 : ¬ (x : Int) < 0 := by omega
                cases bv with
                | true =>
                  go_wp2_with fail
                  go_round
                  case rel => exact ⟨k + 1, by go_num, by omega, by rw [AT.out]⟩
                  case measure => simp [intOf]; omega
                | false =>
                  go_wp2_with fail
                  go_round
                  case rel => exact ⟨k + 1, by go_num, by omega, by rw [AT.out]⟩
                  case measure => simp [intOf]; omega
              | none =>
                rw [hat] at AT
                cases bv with
                | true =>
                  have AT : Hid (Lw.atM M c (k + 1) = some k) := Lib.hid (by rw [AT]; rfl)
                  go_wp2_with fail
                  go_round
                  case rel => exact ⟨k + 1, by go_num, by omega, by rw [AT.out]⟩
                  case measure => simp [intOf]; omega
                | false =>
                  have AT : Hid (Lw.atM M c (k + 1) = none) := Lib.hid (by rw [AT]; rfl)
                  go_wp2_with fail
                  go_round
                  case rel => exact ⟨k + 1, by go_num, by omega, by rw [AT.out]⟩
                  case measure => simp [intOf]; omega
            · have hkl' : ¬ (k : Int) < (M.length : Int) := by omega
              have hke : k = M.length := by omega
              rw [hke]
              unfold Lw.stepM at MS
              cases hat : Lw.atM M c M.length with
              | none =>
                rw [hat] at MS
                simp only at MS
                have HM : Hid (Lw.elM (Lw.rowsN l beg taps (N - taps)) (c + 1) = M) := Lib.hid (by rw [HM2.out, MS])
                go_wp2_with fail
                go_roundw
                case rel => exact ⟨c + 1, A1, cp, by go_num, by omega, by rw [HM.out], by rw [HM.out]; exact RB1, hBc⟩
                case measure => simp [intOf]; omega
              | some a =>
                rw [hat] at MS
                simp only at MS
                obtain ⟨a1, a2⟩ := Lw.atM_some _ hat
                have ha0 : ¬ (a : Int) < 0 := by omega
                have HM : Hid (Lw.elM (Lw.rowsN l beg taps (N - taps)) (c + 1) = Lw.nxtT M a c M.length) := Lib.hid (by rw [HM2.out, MS])
                clear hat MS
                have ea : IntKind.i64.wrap (a : Int) = (a : Int) := by rw [IntKind.wrap_i64]; omega
                go_wp2_with fail
                go_loopw [15, 16] (fun v ki wr => ∃ k : Nat, ki = .int .i64 (k : Int) ∧ k ≤ M.length ∧ BlS wc.heap.size (u + 1) v (Lw.nxtT M a c k) wr ∧ Below wc.heap.size wc wr) (fun _ ki _ => M.length - (intOf ki).toNat)
                case atStart => exact ⟨0, rfl, by omega, ⟨[], rfl, World.ownsRow_nil _ _ _ _, fun j h => by cases h⟩, Below.refl _ _⟩
                case round =>
                  obtain ⟨k, rfl, hk, hBl, hX⟩ := hrel
                  have hkm : k < M.length ∨ ¬ k < M.length := by omega
                  rcases hkm with hkl | hkl
                  · have hkl' : (k : Int) < (M.length : Int) := by omega
                    have ek : IntKind.i64.wrap ((k : Int) + 1) = (k : Int) + 1 := by rw [IntKind.wrap_i64]; omega
                    by_cases e : k = a
                    · have zb : ((k : Int) == (a : Int)) = true := by simp; omega
                      have NX : Hid (Lw.nxtT M a c (k + 1) = Lw.nxtT M a c k) := Lib.hid (if_pos e)
                      clear e
                      go_wp2_with fail
                      go_roundw
                      case rel => exact ⟨k + 1, by go_num, by omega, by rw [NX.out]; exact hBl, hX⟩
                      case measure => simp [intOf]; omega
                    · have zb : ((k : Int) == (a : Int)) = false := by simp; omega
                      have NX : Hid (Lw.nxtT M a c (k + 1) = Lw.nxtT M a c k ++ [Lw.nxtRow c (M.getD a []) (M.getD k [])]) := Lib.hid (if_neg e)
                      clear e
                      obtain ⟨T, hT⟩ := hBl
                      have HT := Lib.hid hT
                      clear hT
                      have nlen := Lw.nxtT_len_le M a c k
                      obtain ⟨wk, hwk⟩ : ∃ wk, wk = wr := ⟨_, rfl⟩
                      subst hwk
                      have hzk := hX.size
                      obtain ⟨ad, B1, c1, rfl, had, q0, qc⟩ := (RB1.out.below hX).at LM.out hkl
                      obtain ⟨ad2, B2, c2, e2, had2, r0, rc⟩ := (RB1.out.below hX).at LM.out a1
                      injection e2 with e2
                      subst e2
                      obtain ⟨bd, rfl, hbd, q1⟩ := qc c (by omega)
                      obtain ⟨pd, rfl, hpd, _⟩ := rc c (by omega)
                      have RL : (M.getD k []).length = u + 1 := LM.out _ (Lw.getD_mem hkl)
                      have QI := Lib.hid (fun i (hi : i < u + 1) => show wk.cell? (bd.add i) = some (.bool (Lw.rg (M.getD k []) i)) from by
                        obtain ⟨bd', e', _, h⟩ := qc i hi
                        injection e' with e'
                        subst e'
                        exact h)
                      have PI := Lib.hid (fun i (hi : i < u + 1) => show wk.cell? (pd.add i) = some (.bool (Lw.rg (M.getD a []) i)) from by
                        obtain ⟨bd', e', _, h⟩ := rc i hi
                        injection e' with e'
                        subst e'
                        exact h)
                      clear qc rc
                      generalize M.getD k [] = R at *
                      generalize M.getD a [] = P at *
                      have hal' : (a : Int) < (M.length : Int) := by omega
                      go_wp2_with fail
                      go_loopw [17, 18] (fun v ii wr => ∃ i : Nat, ii = .int .i64 (i : Int) ∧ i ≤ u + 1 ∧ wr.ownsRow wk.heap.size 4 1 v i (Lw.bsV ((Lw.nxtRow c P R).take i)) ∧ Below wk.heap.size wk wr) (fun _ ii _ => u + 1 - (intOf ii).toNat)
                      case atStart => exact ⟨0, rfl, by omega, by rw [List.take_zero]; exact World.ownsRow_nil _ _ _ _, Below.refl _ _⟩
                      case round =>
                        obtain ⟨i, rfl, hi, own, hZ⟩ := hrel
                        have hzr := hZ.size
                        have him : i < u + 1 ∨ ¬ i < u + 1 := by omega
                        have z0 := (hZ.cell (p := ad.add k) (by rw [Lw.add_block]; exact had)).trans q0
                        rcases him with hil | hil
                        · have hil' : (i : Int) < ((u + 1 : Nat) : Int) := by omega
                          have hil2 : (i : Int) < (u : Int) + 1 := by omega
                          have hcl2 : (c : Int) < ((u + 1 : Nat) : Int) := by omega
                          have hcl3 : (c : Int) < (u : Int) + 1 := by omega
                          have hin : i < (Lw.nxtRow c P R).length := by rw [Lw.nxtRow_len]; omega
                          have TS : Lw.bsV ((Lw.nxtRow c P R).take (i + 1)) = Lw.bsV ((Lw.nxtRow c P R).take i) ++ [.bool (Lw.rg R i != (Lw.rg R c && Lw.rg P i))] := by
                            rw [List.take_succ_eq_append_getElem hin, Lw.bsV_app]
                            congr 3
                            have h := Lw.nxtRow_get (c := c) (P := P) (r := R) (i := i) (by omega)
                            rw [← h]
                            unfold Lw.rg
                            rw [List.getD_eq_getElem?_getD, List.getElem?_eq_getElem hin]; rfl
                          have Q6 := Lib.hid (fun w' (h : Below wk.heap.size wk w') => show w'.cell? (ad.add k) = some (.slice (some bd) (u + 1) c1) ∧ w'.cell? (ad.add a) = some (.slice (some pd) (u + 1) c2) ∧ w'.cell? (bd.add i) = some (.bool (Lw.rg R i)) ∧ (w'.cell? (bd.add c) = some (.bool (Lw.rg R c)) ∧ w'.cell? (pd.add i) = some (.bool (Lw.rg P i))) from ⟨(h.cell (p := ad.add k) (by rw [Lw.add_block]; exact had)).trans q0, (h.cell (p := ad.add a) (by rw [Lw.add_block]; exact had)).trans r0, (h.cell (p := bd.add i) (by rw [Lw.add_block]; exact hbd)).trans (QI.out i hil), (h.cell (p := bd.add c) (by rw [Lw.add_block]; exact hbd)).trans (QI.out c (by omega)), (h.cell (p := pd.add i) (by rw [Lw.add_block]; exact hpd)).trans (PI.out i hil)⟩)
                          have OWN := Lib.hid own
                          clear own hin
                          generalize Lw.rg R i = x at *
                          generalize Lw.rg R c = y at *
                          generalize Lw.rg P i = z at *
                          go_wp2_with fail
                          cases y with
                          | false => cases x with
                            | false =>
                              have TS2 : Hid (Lw.bsV ((Lw.nxtRow c P R).take (i + 1)) = Lw.bsV ((Lw.nxtRow c P R).take i) ++ [.bool false]) := Lib.hid (by rw [TS]; rfl)
                              refine wp_region_held_drew (S := fun w' => w'.cell? (ad.add k) = some (.slice (some bd) (u + 1) c1) ∧ w'.cell? (ad.add a) = some (.slice (some pd) (u + 1) c2) ∧ w'.cell? (bd.add i) = some (.bool false) ∧ (w'.cell? (bd.add c) = some (.bool false) ∧ w'.cell? (pd.add i) = some (.bool z))) (by kernel_rfl) (by exact Q6.out _ hZ.drew) (fun hHeld => ?_)
                              (refine Lw.take1 (i := 0) (v := ?_) rfl (by kernel_rfl) (by kernel_rfl) (by kernel_rfl) (fun _ _ _ h => h) (Or.inl ⟨by rfl, ?_⟩) (by assumption) ?_; rotate_left 1; (focus (intro wS hSw; obtain ⟨hS1, hS2, hS3, hS4⟩ := hSw; go_simp <;> with_reducible rfl)); (try simp only [Act.put, List.setIfInBounds_toArray, List.set_cons_zero, List.set_cons_succ]))
                              (refine Lw.take1 (i := 1) (v := ?_) rfl (by kernel_rfl) (by kernel_rfl) (by kernel_rfl) (fun _ _ _ h => h) (Or.inl ⟨by rfl, ?_⟩) (by assumption) ?_; rotate_left 1; (focus (intro wS hSw; obtain ⟨hS1, hS2, hS3, hS4⟩ := hSw; go_simp <;> with_reducible rfl)); (try simp only [Act.put, List.setIfInBounds_toArray, List.set_cons_zero, List.set_cons_succ]))
                              (refine Lw.take1 (i := 2) (v := ?_) rfl (by kernel_rfl) (by kernel_rfl) (by kernel_rfl) (fun _ _ _ h => h) (Or.inl ⟨by rfl, ?_⟩) (by assumption) ?_; rotate_left 1; (focus (intro wS hSw; obtain ⟨hS1, hS2, hS3, hS4⟩ := hSw; go_simp <;> with_reducible rfl)); (try simp only [Act.put, List.setIfInBounds_toArray, List.set_cons_zero, List.set_cons_succ]))
                              (refine Lw.take1 (i := 3) (v := ?_) rfl (by kernel_rfl) (by kernel_rfl) (by kernel_rfl) (fun _ _ _ h => h) (Or.inl ⟨by rfl, ?_⟩) (by assumption) ?_; rotate_left 1; (focus (intro wS hSw; obtain ⟨hS1, hS2, hS3, hS4⟩ := hSw; go_simp <;> with_reducible rfl)); (try simp only [Act.put, List.setIfInBounds_toArray, List.set_cons_zero, List.set_cons_succ]))
                              (refine Lw.take1 (i := 4) (v := ?_) rfl (by kernel_rfl) (by kernel_rfl) (by kernel_rfl) (fun _ _ _ h => h) (Or.inl ⟨by rfl, ?_⟩) (by assumption) ?_; rotate_left 1; (focus (intro wS hSw; obtain ⟨hS1, hS2, hS3, hS4⟩ := hSw; go_simp <;> with_reducible rfl)); (try simp only [Act.put, List.setIfInBounds_toArray, List.set_cons_zero, List.set_cons_succ]))
                              (refine Lw.take1 (i := 5) (v := ?_) rfl (by kernel_rfl) (by kernel_rfl) (by kernel_rfl) (fun _ _ _ h => h) (Or.inl ⟨by rfl, ?_⟩) (by assumption) ?_; rotate_left 1; (focus (intro wS hSw; obtain ⟨hS1, hS2, hS3, hS4⟩ := hSw; go_simp <;> with_reducible rfl)); (try simp only [Act.put, List.setIfInBounds_toArray, List.set_cons_zero, List.set_cons_succ]))
                              (refine Lw.take1 (i := 6) (v := ?_) rfl (by kernel_rfl) (by kernel_rfl) (by kernel_rfl) (fun _ _ _ h => h) (Or.inl ⟨by rfl, ?_⟩) (by assumption) ?_; rotate_left 1; (focus (intro wS hSw; obtain ⟨hS1, hS2, hS3, hS4⟩ := hSw; go_simp <;> with_reducible rfl)); (try simp only [Act.put, List.setIfInBounds_toArray, List.set_cons_zero, List.set_cons_succ]))
                              (refine Lw.take1 (i := 7) (v := ?_) rfl (by kernel_rfl) (by kernel_rfl) (by kernel_rfl) (fun _ _ _ h => h) (Or.inl ⟨by rfl, ?_⟩) (by assumption) ?_; rotate_left 1; (focus (intro wS hSw; obtain ⟨hS1, hS2, hS3, hS4⟩ := hSw; go_simp <;> with_reducible rfl)); (try simp only [Act.put, List.setIfInBounds_toArray, List.set_cons_zero, List.set_cons_succ]))
                              (refine Lw.take1 (i := 8) (v := ?_) rfl (by kernel_rfl) (by kernel_rfl) (by kernel_rfl) (fun _ _ _ h => h) (Or.inl ⟨by rfl, ?_⟩) (by assumption) ?_; rotate_left 1; (focus (intro wS hSw; obtain ⟨hS1, hS2, hS3, hS4⟩ := hSw; go_simp <;> with_reducible rfl)); (try simp only [Act.put, List.setIfInBounds_toArray, List.set_cons_zero, List.set_cons_succ]))
                              (refine Lw.take1 (i := 9) (v := ?_) rfl (by kernel_rfl) (by kernel_rfl) (by kernel_rfl) (fun _ _ _ h => h) (Or.inl ⟨by rfl, ?_⟩) (by assumption) ?_; rotate_left 1; (focus (intro wS hSw; obtain ⟨hS1, hS2, hS3, hS4⟩ := hSw; go_simp <;> with_reducible rfl)); (try simp only [Act.put, List.setIfInBounds_toArray, List.set_cons_zero, List.set_cons_succ]))
                              (refine Lw.take1 (i := 10) (v := ?_) rfl (by kernel_rfl) (by kernel_rfl) (by kernel_rfl) (fun _ _ _ h => h) (Or.inl ⟨by rfl, ?_⟩) (by assumption) ?_; rotate_left 1; (focus (intro wS hSw; obtain ⟨hS1, hS2, hS3, hS4⟩ := hSw; go_simp <;> with_reducible rfl)); (try simp only [Act.put, List.setIfInBounds_toArray, List.set_cons_zero, List.set_cons_succ]))
                              (refine Lw.take1 (i := 11) (v := ?_) rfl (by kernel_rfl) (by kernel_rfl) (by kernel_rfl) (fun _ _ _ h => h) (Or.inl ⟨by rfl, ?_⟩) (by assumption) ?_; rotate_left 1; (focus (intro wS hSw; obtain ⟨hS1, hS2, hS3, hS4⟩ := hSw; go_simp <;> with_reducible rfl)); (try simp only [Act.put, List.setIfInBounds_toArray, List.set_cons_zero, List.set_cons_succ]))
                              (refine Lw.take1 (i := 12) (v := ?_) rfl (by kernel_rfl) (by kernel_rfl) (by kernel_rfl) (fun _ _ _ h => h) (Or.inl ⟨by rfl, ?_⟩) (by assumption) ?_; rotate_left 1; (focus (intro wS hSw; obtain ⟨hS1, hS2, hS3, hS4⟩ := hSw; go_simp <;> with_reducible rfl)); (try simp only [Act.put, List.setIfInBounds_toArray, List.set_cons_zero, List.set_cons_succ]))
                              (refine Lw.take1 (i := 13) (v := ?_) rfl (by kernel_rfl) (by kernel_rfl) (by kernel_rfl) (fun _ _ _ h => h) (Or.inl ⟨by rfl, ?_⟩) (by assumption) ?_; rotate_left 1; (focus (intro wS hSw; obtain ⟨hS1, hS2, hS3, hS4⟩ := hSw; go_simp <;> with_reducible rfl)); (try simp only [Act.put, List.setIfInBounds_toArray, List.set_cons_zero, List.set_cons_succ]))
                              (refine Lw.take1 (i := 14) (v := ?_) rfl (by kernel_rfl) (by kernel_rfl) (by kernel_rfl) (fun _ _ _ h => h) (Or.inl ⟨by rfl, ?_⟩) (by assumption) ?_; rotate_left 1; (focus (intro wS hSw; obtain ⟨hS1, hS2, hS3, hS4⟩ := hSw; go_simp <;> with_reducible rfl)); (try simp only [Act.put, List.setIfInBounds_toArray, List.set_cons_zero, List.set_cons_succ]))
                              (refine Lw.take1 (i := 15) (v := ?_) rfl (by kernel_rfl) (by kernel_rfl) (by kernel_rfl) (fun _ _ _ h => h) (Or.inl ⟨by rfl, ?_⟩) (by assumption) ?_; rotate_left 1; (focus (intro wS hSw; obtain ⟨hS1, hS2, hS3, hS4⟩ := hSw; go_simp <;> with_reducible rfl)); (try simp only [Act.put, List.setIfInBounds_toArray, List.set_cons_zero, List.set_cons_succ]))
                              (refine Lw.take1 (i := 16) (v := undef) rfl (by kernel_rfl) (by kernel_rfl) (by kernel_rfl) (fun _ _ _ h => h) (Or.inr ⟨by rfl, rfl⟩) (by assumption) ?_; (try simp only [Act.put, List.setIfInBounds_toArray, List.set_cons_zero, List.set_cons_succ]))
                              (refine Lw.take1 (i := 17) (v := undef) rfl (by kernel_rfl) (by kernel_rfl) (by kernel_rfl) (fun _ _ _ h => h) (Or.inr ⟨by rfl, rfl⟩) (by assumption) ?_; (try simp only [Act.put, List.setIfInBounds_toArray, List.set_cons_zero, List.set_cons_succ]))
                              (refine Lw.take1 (i := 18) (v := undef) rfl (by kernel_rfl) (by kernel_rfl) (by kernel_rfl) (fun _ _ _ h => h) (Or.inr ⟨by rfl, rfl⟩) (by assumption) ?_; (try simp only [Act.put, List.setIfInBounds_toArray, List.set_cons_zero, List.set_cons_succ]))
                              (refine Lw.take1 (i := 19) (v := undef) rfl (by kernel_rfl) (by kernel_rfl) (by kernel_rfl) (fun _ _ _ h => h) (Or.inr ⟨by rfl, rfl⟩) (by assumption) ?_; (try simp only [Act.put, List.setIfInBounds_toArray, List.set_cons_zero, List.set_cons_succ]))
                              (refine Lw.take1 (i := 20) (v := undef) rfl (by kernel_rfl) (by kernel_rfl) (by kernel_rfl) (fun _ _ _ h => h) (Or.inr ⟨by rfl, rfl⟩) (by assumption) ?_; (try simp only [Act.put, List.setIfInBounds_toArray, List.set_cons_zero, List.set_cons_succ]))
                              (refine Lw.take1 (i := 21) (v := undef) rfl (by kernel_rfl) (by kernel_rfl) (by kernel_rfl) (fun _ _ _ h => h) (Or.inr ⟨by rfl, rfl⟩) (by assumption) ?_; (try simp only [Act.put, List.setIfInBounds_toArray, List.set_cons_zero, List.set_cons_succ]))
                              (refine Lw.take1 (i := 22) (v := undef) rfl (by kernel_rfl) (by kernel_rfl) (by kernel_rfl) (fun _ _ _ h => h) (Or.inr ⟨by rfl, rfl⟩) (by assumption) ?_; (try simp only [Act.put, List.setIfInBounds_toArray, List.set_cons_zero, List.set_cons_succ]))
                              (refine Lw.take1 (i := 23) (v := ?_) rfl (by kernel_rfl) (by kernel_rfl) (by kernel_rfl) (fun _ _ _ h => h) (Or.inl ⟨by rfl, ?_⟩) (by assumption) ?_; rotate_left 1; (focus (intro wS hSw; obtain ⟨hS1, hS2, hS3, hS4⟩ := hSw; go_simp <;> with_reducible rfl)); (try simp only [Act.put, List.setIfInBounds_toArray, List.set_cons_zero, List.set_cons_succ]))
                              (refine Lw.take1 (i := 24) (v := ?_) rfl (by kernel_rfl) (by kernel_rfl) (by kernel_rfl) (fun _ _ _ h => h) (Or.inl ⟨by rfl, ?_⟩) (by assumption) ?_; rotate_left 1; (focus (intro wS hSw; obtain ⟨hS1, hS2, hS3, hS4⟩ := hSw; go_simp <;> with_reducible rfl)); (try simp only [Act.put, List.setIfInBounds_toArray, List.set_cons_zero, List.set_cons_succ]))
                              (refine wpAnyH_ready (rs := [25]) (by kernel_rfl) (by simp) ?_; refine Lw.cons1 (i := 25) rfl (fun K hK => ?_) AllReadyH.nil; go_simp; refine hK.out _ _ ?_ (fun hHeld => ?_); (focus exact Q6.out _ (Lw.balloc hZ.drew _)); clear hK K; (try simp only [Act.put, List.setIfInBounds_toArray, List.set_cons_zero, List.set_cons_succ]))
                              (refine wpAnyH_ready (rs := [26]) (by kernel_rfl) (by simp) ?_; refine Lw.cons1 (i := 26) rfl (fun K hK => ?_) AllReadyH.nil; refine Lw.step_app elBol rfl _ _ rfl rfl ((Lw.own_drew OWN.out).alloc _) rfl (by exact Lw.Rd.lit (Lw.blk_new _ _ _) rfl rfl) (Lw.oneb _) (by omega) (Lw.balloc hZ.drew _) (Nat.le_refl _) (by show wk.heap.size ≤ (wr.alloc _).heap.size; simp; omega) ?_; intro v7 w7 own7 hb7 hg7 _; refine hK.out _ _ ?_ (fun hHeld => ?_); (focus exact Q6.out _ hb7); clear hK K; (try simp only [Act.put, List.setIfInBounds_toArray, List.set_cons_zero, List.set_cons_succ]))
                              (refine Lw.take1 (i := 27) (v := ?_) rfl (by kernel_rfl) (by kernel_rfl) (by kernel_rfl) (fun _ _ _ h => h) (Or.inl ⟨by rfl, ?_⟩) (by assumption) ?_; rotate_left 1; (focus (intro wS hSw; obtain ⟨hS1, hS2, hS3, hS4⟩ := hSw; go_simp <;> with_reducible rfl)); (try simp only [Act.put, List.setIfInBounds_toArray, List.set_cons_zero, List.set_cons_succ]))
                              refine wpAnyH_done (by kernel_rfl) ?_ _
                              have O7 := Lib.hid own7
                              clear own7 hg7
                              go_wp2_with fail
                              go_roundw
                              case rel => exact ⟨i + 1, by go_num, by omega, by rw [TS2.out]; exact O7.out, hb7⟩
                              case measure => simp [intOf]; omega

                            | true =>
                              have TS2 : Hid (Lw.bsV ((Lw.nxtRow c P R).take (i + 1)) = Lw.bsV ((Lw.nxtRow c P R).take i) ++ [.bool true]) := Lib.hid (by rw [TS]; rfl)
                              refine wp_region_held_drew (S := fun w' => w'.cell? (ad.add k) = some (.slice (some bd) (u + 1) c1) ∧ w'.cell? (ad.add a) = some (.slice (some pd) (u + 1) c2) ∧ w'.cell? (bd.add i) = some (.bool true) ∧ (w'.cell? (bd.add c) = some (.bool false) ∧ w'.cell? (pd.add i) = some (.bool z))) (by kernel_rfl) (by exact Q6.out _ hZ.drew) (fun hHeld => ?_)
                              (refine Lw.take1 (i := 0) (v := ?_) rfl (by kernel_rfl) (by kernel_rfl) (by kernel_rfl) (fun _ _ _ h => h) (Or.inl ⟨by rfl, ?_⟩) (by assumption) ?_; rotate_left 1; (focus (intro wS hSw; obtain ⟨hS1, hS2, hS3, hS4⟩ := hSw; go_simp <;> with_reducible rfl)); (try simp only [Act.put, List.setIfInBounds_toArray, List.set_cons_zero, List.set_cons_succ]))
                              (refine Lw.take1 (i := 1) (v := ?_) rfl (by kernel_rfl) (by kernel_rfl) (by kernel_rfl) (fun _ _ _ h => h) (Or.inl ⟨by rfl, ?_⟩) (by assumption) ?_; rotate_left 1; (focus (intro wS hSw; obtain ⟨hS1, hS2, hS3, hS4⟩ := hSw; go_simp <;> with_reducible rfl)); (try simp only [Act.put, List.setIfInBounds_toArray, List.set_cons_zero, List.set_cons_succ]))
                              (refine Lw.take1 (i := 2) (v := ?_) rfl (by kernel_rfl) (by kernel_rfl) (by kernel_rfl) (fun _ _ _ h => h) (Or.inl ⟨by rfl, ?_⟩) (by assumption) ?_; rotate_left 1; (focus (intro wS hSw; obtain ⟨hS1, hS2, hS3, hS4⟩ := hSw; go_simp <;> with_reducible rfl)); (try simp only [Act.put, List.setIfInBounds_toArray, List.set_cons_zero, List.set_cons_succ]))
                              (refine Lw.take1 (i := 3) (v := ?_) rfl (by kernel_rfl) (by kernel_rfl) (by kernel_rfl) (fun _ _ _ h => h) (Or.inl ⟨by rfl, ?_⟩) (by assumption) ?_; rotate_left 1; (focus (intro wS hSw; obtain ⟨hS1, hS2, hS3, hS4⟩ := hSw; go_simp <;> with_reducible rfl)); (try simp only [Act.put, List.setIfInBounds_toArray, List.set_cons_zero, List.set_cons_succ]))
                              (refine Lw.take1 (i := 4) (v := ?_) rfl (by kernel_rfl) (by kernel_rfl) (by kernel_rfl) (fun _ _ _ h => h) (Or.inl ⟨by rfl, ?_⟩) (by assumption) ?_; rotate_left 1; (focus (intro wS hSw; obtain ⟨hS1, hS2, hS3, hS4⟩ := hSw; go_simp <;> with_reducible rfl)); (try simp only [Act.put, List.setIfInBounds_toArray, List.set_cons_zero, List.set_cons_succ]))
                              (refine Lw.take1 (i := 5) (v := ?_) rfl (by kernel_rfl) (by kernel_rfl) (by kernel_rfl) (fun _ _ _ h => h) (Or.inl ⟨by rfl, ?_⟩) (by assumption) ?_; rotate_left 1; (focus (intro wS hSw; obtain ⟨hS1, hS2, hS3, hS4⟩ := hSw; go_simp <;> with_reducible rfl)); (try simp only [Act.put, List.setIfInBounds_toArray, List.set_cons_zero, List.set_cons_succ]))
                              (refine Lw.take1 (i := 6) (v := ?_) rfl (by kernel_rfl) (by kernel_rfl) (by kernel_rfl) (fun _ _ _ h => h) (Or.inl ⟨by rfl, ?_⟩) (by assumption) ?_; rotate_left 1; (focus (intro wS hSw; obtain ⟨hS1, hS2, hS3, hS4⟩ := hSw; go_simp <;> with_reducible rfl)); (try simp only [Act.put, List.setIfInBounds_toArray, List.set_cons_zero, List.set_cons_succ]))
                              (refine Lw.take1 (i := 7) (v := ?_) rfl (by kernel_rfl) (by kernel_rfl) (by kernel_rfl) (fun _ _ _ h => h) (Or.inl ⟨by rfl, ?_⟩) (by assumption) ?_; rotate_left 1; (focus (intro wS hSw; obtain ⟨hS1, hS2, hS3, hS4⟩ := hSw; go_simp <;> with_reducible rfl)); (try simp only [Act.put, List.setIfInBounds_toArray, List.set_cons_zero, List.set_cons_succ]))
                              (refine Lw.take1 (i := 8) (v := ?_) rfl (by kernel_rfl) (by kernel_rfl) (by kernel_rfl) (fun _ _ _ h => h) (Or.inl ⟨by rfl, ?_⟩) (by assumption) ?_; rotate_left 1; (focus (intro wS hSw; obtain ⟨hS1, hS2, hS3, hS4⟩ := hSw; go_simp <;> with_reducible rfl)); (try simp only [Act.put, List.setIfInBounds_toArray, List.set_cons_zero, List.set_cons_succ]))
                              (refine Lw.take1 (i := 9) (v := ?_) rfl (by kernel_rfl) (by kernel_rfl) (by kernel_rfl) (fun _ _ _ h => h) (Or.inl ⟨by rfl, ?_⟩) (by assumption) ?_; rotate_left 1; (focus (intro wS hSw; obtain ⟨hS1, hS2, hS3, hS4⟩ := hSw; go_simp <;> with_reducible rfl)); (try simp only [Act.put, List.setIfInBounds_toArray, List.set_cons_zero, List.set_cons_succ]))
                              (refine Lw.take1 (i := 10) (v := ?_) rfl (by kernel_rfl) (by kernel_rfl) (by kernel_rfl) (fun _ _ _ h => h) (Or.inl ⟨by rfl, ?_⟩) (by assumption) ?_; rotate_left 1; (focus (intro wS hSw; obtain ⟨hS1, hS2, hS3, hS4⟩ := hSw; go_simp <;> with_reducible rfl)); (try simp only [Act.put, List.setIfInBounds_toArray, List.set_cons_zero, List.set_cons_succ]))
                              (refine Lw.take1 (i := 11) (v := ?_) rfl (by kernel_rfl) (by kernel_rfl) (by kernel_rfl) (fun _ _ _ h => h) (Or.inl ⟨by rfl, ?_⟩) (by assumption) ?_; rotate_left 1; (focus (intro wS hSw; obtain ⟨hS1, hS2, hS3, hS4⟩ := hSw; go_simp <;> with_reducible rfl)); (try simp only [Act.put, List.setIfInBounds_toArray, List.set_cons_zero, List.set_cons_succ]))
                              (refine Lw.take1 (i := 12) (v := ?_) rfl (by kernel_rfl) (by kernel_rfl) (by kernel_rfl) (fun _ _ _ h => h) (Or.inl ⟨by rfl, ?_⟩) (by assumption) ?_; rotate_left 1; (focus (intro wS hSw; obtain ⟨hS1, hS2, hS3, hS4⟩ := hSw; go_simp <;> with_reducible rfl)); (try simp only [Act.put, List.setIfInBounds_toArray, List.set_cons_zero, List.set_cons_succ]))
                              (refine Lw.take1 (i := 13) (v := ?_) rfl (by kernel_rfl) (by kernel_rfl) (by kernel_rfl) (fun _ _ _ h => h) (Or.inl ⟨by rfl, ?_⟩) (by assumption) ?_; rotate_left 1; (focus (intro wS hSw; obtain ⟨hS1, hS2, hS3, hS4⟩ := hSw; go_simp <;> with_reducible rfl)); (try simp only [Act.put, List.setIfInBounds_toArray, List.set_cons_zero, List.set_cons_succ]))
                              (refine Lw.take1 (i := 14) (v := ?_) rfl (by kernel_rfl) (by kernel_rfl) (by kernel_rfl) (fun _ _ _ h => h) (Or.inl ⟨by rfl, ?_⟩) (by assumption) ?_; rotate_left 1; (focus (intro wS hSw; obtain ⟨hS1, hS2, hS3, hS4⟩ := hSw; go_simp <;> with_reducible rfl)); (try simp only [Act.put, List.setIfInBounds_toArray, List.set_cons_zero, List.set_cons_succ]))
                              (refine Lw.take1 (i := 15) (v := ?_) rfl (by kernel_rfl) (by kernel_rfl) (by kernel_rfl) (fun _ _ _ h => h) (Or.inl ⟨by rfl, ?_⟩) (by assumption) ?_; rotate_left 1; (focus (intro wS hSw; obtain ⟨hS1, hS2, hS3, hS4⟩ := hSw; go_simp <;> with_reducible rfl)); (try simp only [Act.put, List.setIfInBounds_toArray, List.set_cons_zero, List.set_cons_succ]))
                              (refine Lw.take1 (i := 16) (v := undef) rfl (by kernel_rfl) (by kernel_rfl) (by kernel_rfl) (fun _ _ _ h => h) (Or.inr ⟨by rfl, rfl⟩) (by assumption) ?_; (try simp only [Act.put, List.setIfInBounds_toArray, List.set_cons_zero, List.set_cons_succ]))
                              (refine Lw.take1 (i := 17) (v := undef) rfl (by kernel_rfl) (by kernel_rfl) (by kernel_rfl) (fun _ _ _ h => h) (Or.inr ⟨by rfl, rfl⟩) (by assumption) ?_; (try simp only [Act.put, List.setIfInBounds_toArray, List.set_cons_zero, List.set_cons_succ]))
                              (refine Lw.take1 (i := 18) (v := undef) rfl (by kernel_rfl) (by kernel_rfl) (by kernel_rfl) (fun _ _ _ h => h) (Or.inr ⟨by rfl, rfl⟩) (by assumption) ?_; (try simp only [Act.put, List.setIfInBounds_toArray, List.set_cons_zero, List.set_cons_succ]))
                              (refine Lw.take1 (i := 19) (v := undef) rfl (by kernel_rfl) (by kernel_rfl) (by kernel_rfl) (fun _ _ _ h => h) (Or.inr ⟨by rfl, rfl⟩) (by assumption) ?_; (try simp only [Act.put, List.setIfInBounds_toArray, List.set_cons_zero, List.set_cons_succ]))
                              (refine Lw.take1 (i := 20) (v := undef) rfl (by kernel_rfl) (by kernel_rfl) (by kernel_rfl) (fun _ _ _ h => h) (Or.inr ⟨by rfl, rfl⟩) (by assumption) ?_; (try simp only [Act.put, List.setIfInBounds_toArray, List.set_cons_zero, List.set_cons_succ]))
                              (refine Lw.take1 (i := 21) (v := undef) rfl (by kernel_rfl) (by kernel_rfl) (by kernel_rfl) (fun _ _ _ h => h) (Or.inr ⟨by rfl, rfl⟩) (by assumption) ?_; (try simp only [Act.put, List.setIfInBounds_toArray, List.set_cons_zero, List.set_cons_succ]))
                              (refine Lw.take1 (i := 22) (v := undef) rfl (by kernel_rfl) (by kernel_rfl) (by kernel_rfl) (fun _ _ _ h => h) (Or.inr ⟨by rfl, rfl⟩) (by assumption) ?_; (try simp only [Act.put, List.setIfInBounds_toArray, List.set_cons_zero, List.set_cons_succ]))
                              (refine Lw.take1 (i := 23) (v := ?_) rfl (by kernel_rfl) (by kernel_rfl) (by kernel_rfl) (fun _ _ _ h => h) (Or.inl ⟨by rfl, ?_⟩) (by assumption) ?_; rotate_left 1; (focus (intro wS hSw; obtain ⟨hS1, hS2, hS3, hS4⟩ := hSw; go_simp <;> with_reducible rfl)); (try simp only [Act.put, List.setIfInBounds_toArray, List.set_cons_zero, List.set_cons_succ]))
                              (refine Lw.take1 (i := 24) (v := ?_) rfl (by kernel_rfl) (by kernel_rfl) (by kernel_rfl) (fun _ _ _ h => h) (Or.inl ⟨by rfl, ?_⟩) (by assumption) ?_; rotate_left 1; (focus (intro wS hSw; obtain ⟨hS1, hS2, hS3, hS4⟩ := hSw; go_simp <;> with_reducible rfl)); (try simp only [Act.put, List.setIfInBounds_toArray, List.set_cons_zero, List.set_cons_succ]))
                              (refine wpAnyH_ready (rs := [25]) (by kernel_rfl) (by simp) ?_; refine Lw.cons1 (i := 25) rfl (fun K hK => ?_) AllReadyH.nil; go_simp; refine hK.out _ _ ?_ (fun hHeld => ?_); (focus exact Q6.out _ (Lw.balloc hZ.drew _)); clear hK K; (try simp only [Act.put, List.setIfInBounds_toArray, List.set_cons_zero, List.set_cons_succ]))
                              (refine wpAnyH_ready (rs := [26]) (by kernel_rfl) (by simp) ?_; refine Lw.cons1 (i := 26) rfl (fun K hK => ?_) AllReadyH.nil; refine Lw.step_app elBol rfl _ _ rfl rfl ((Lw.own_drew OWN.out).alloc _) rfl (by exact Lw.Rd.lit (Lw.blk_new _ _ _) rfl rfl) (Lw.oneb _) (by omega) (Lw.balloc hZ.drew _) (Nat.le_refl _) (by show wk.heap.size ≤ (wr.alloc _).heap.size; simp; omega) ?_; intro v7 w7 own7 hb7 hg7 _; refine hK.out _ _ ?_ (fun hHeld => ?_); (focus exact Q6.out _ hb7); clear hK K; (try simp only [Act.put, List.setIfInBounds_toArray, List.set_cons_zero, List.set_cons_succ]))
                              (refine Lw.take1 (i := 27) (v := ?_) rfl (by kernel_rfl) (by kernel_rfl) (by kernel_rfl) (fun _ _ _ h => h) (Or.inl ⟨by rfl, ?_⟩) (by assumption) ?_; rotate_left 1; (focus (intro wS hSw; obtain ⟨hS1, hS2, hS3, hS4⟩ := hSw; go_simp <;> with_reducible rfl)); (try simp only [Act.put, List.setIfInBounds_toArray, List.set_cons_zero, List.set_cons_succ]))
                              refine wpAnyH_done (by kernel_rfl) ?_ _
                              have O7 := Lib.hid own7
                              clear own7 hg7
                              go_wp2_with fail
                              go_roundw
                              case rel => exact ⟨i + 1, by go_num, by omega, by rw [TS2.out]; exact O7.out, hb7⟩
                              case measure => simp [intOf]; omega

                          | true => cases x with
                            | false => cases z with
                              | false =>
                                have TS2 : Hid (Lw.bsV ((Lw.nxtRow c P R).take (i + 1)) = Lw.bsV ((Lw.nxtRow c P R).take i) ++ [.bool false]) := Lib.hid (by rw [TS]; rfl)
                                refine wp_region_held_drew (S := fun w' => w'.cell? (ad.add k) = some (.slice (some bd) (u + 1) c1) ∧ w'.cell? (ad.add a) = some (.slice (some pd) (u + 1) c2) ∧ w'.cell? (bd.add i) = some (.bool false) ∧ (w'.cell? (bd.add c) = some (.bool true) ∧ w'.cell? (pd.add i) = some (.bool false))) (by kernel_rfl) (by exact Q6.out _ hZ.drew) (fun hHeld => ?_)
                                (refine Lw.take1 (i := 0) (v := ?_) rfl (by kernel_rfl) (by kernel_rfl) (by kernel_rfl) (fun _ _ _ h => h) (Or.inl ⟨by rfl, ?_⟩) (by assumption) ?_; rotate_left 1; (focus (intro wS hSw; obtain ⟨hS1, hS2, hS3, hS4⟩ := hSw; go_simp <;> with_reducible rfl)); (try simp only [Act.put, List.setIfInBounds_toArray, List.set_cons_zero, List.set_cons_succ]))
                                (refine Lw.take1 (i := 1) (v := ?_) rfl (by kernel_rfl) (by kernel_rfl) (by kernel_rfl) (fun _ _ _ h => h) (Or.inl ⟨by rfl, ?_⟩) (by assumption) ?_; rotate_left 1; (focus (intro wS hSw; obtain ⟨hS1, hS2, hS3, hS4⟩ := hSw; go_simp <;> with_reducible rfl)); (try simp only [Act.put, List.setIfInBounds_toArray, List.set_cons_zero, List.set_cons_succ]))
                                (refine Lw.take1 (i := 2) (v := ?_) rfl (by kernel_rfl) (by kernel_rfl) (by kernel_rfl) (fun _ _ _ h => h) (Or.inl ⟨by rfl, ?_⟩) (by assumption) ?_; rotate_left 1; (focus (intro wS hSw; obtain ⟨hS1, hS2, hS3, hS4⟩ := hSw; go_simp <;> with_reducible rfl)); (try simp only [Act.put, List.setIfInBounds_toArray, List.set_cons_zero, List.set_cons_succ]))
                                (refine Lw.take1 (i := 3) (v := ?_) rfl (by kernel_rfl) (by kernel_rfl) (by kernel_rfl) (fun _ _ _ h => h) (Or.inl ⟨by rfl, ?_⟩) (by assumption) ?_; rotate_left 1; (focus (intro wS hSw; obtain ⟨hS1, hS2, hS3, hS4⟩ := hSw; go_simp <;> with_reducible rfl)); (try simp only [Act.put, List.setIfInBounds_toArray, List.set_cons_zero, List.set_cons_succ]))
                                (refine Lw.take1 (i := 4) (v := ?_) rfl (by kernel_rfl) (by kernel_rfl) (by kernel_rfl) (fun _ _ _ h => h) (Or.inl ⟨by rfl, ?_⟩) (by assumption) ?_; rotate_left 1; (focus (intro wS hSw; obtain ⟨hS1, hS2, hS3, hS4⟩ := hSw; go_simp <;> with_reducible rfl)); (try simp only [Act.put, List.setIfInBounds_toArray, List.set_cons_zero, List.set_cons_succ]))
                                (refine Lw.take1 (i := 5) (v := ?_) rfl (by kernel_rfl) (by kernel_rfl) (by kernel_rfl) (fun _ _ _ h => h) (Or.inl ⟨by rfl, ?_⟩) (by assumption) ?_; rotate_left 1; (focus (intro wS hSw; obtain ⟨hS1, hS2, hS3, hS4⟩ := hSw; go_simp <;> with_reducible rfl)); (try simp only [Act.put, List.setIfInBounds_toArray, List.set_cons_zero, List.set_cons_succ]))
                                (refine Lw.take1 (i := 6) (v := ?_) rfl (by kernel_rfl) (by kernel_rfl) (by kernel_rfl) (fun _ _ _ h => h) (Or.inl ⟨by rfl, ?_⟩) (by assumption) ?_; rotate_left 1; (focus (intro wS hSw; obtain ⟨hS1, hS2, hS3, hS4⟩ := hSw; go_simp <;> with_reducible rfl)); (try simp only [Act.put, List.setIfInBounds_toArray, List.set_cons_zero, List.set_cons_succ]))
                                (refine Lw.take1 (i := 7) (v := ?_) rfl (by kernel_rfl) (by kernel_rfl) (by kernel_rfl) (fun _ _ _ h => h) (Or.inl ⟨by rfl, ?_⟩) (by assumption) ?_; rotate_left 1; (focus (intro wS hSw; obtain ⟨hS1, hS2, hS3, hS4⟩ := hSw; go_simp <;> with_reducible rfl)); (try simp only [Act.put, List.setIfInBounds_toArray, List.set_cons_zero, List.set_cons_succ]))
                                (refine Lw.take1 (i := 8) (v := ?_) rfl (by kernel_rfl) (by kernel_rfl) (by kernel_rfl) (fun _ _ _ h => h) (Or.inl ⟨by rfl, ?_⟩) (by assumption) ?_; rotate_left 1; (focus (intro wS hSw; obtain ⟨hS1, hS2, hS3, hS4⟩ := hSw; go_simp <;> with_reducible rfl)); (try simp only [Act.put, List.setIfInBounds_toArray, List.set_cons_zero, List.set_cons_succ]))
                                (refine Lw.take1 (i := 9) (v := ?_) rfl (by kernel_rfl) (by kernel_rfl) (by kernel_rfl) (fun _ _ _ h => h) (Or.inl ⟨by rfl, ?_⟩) (by assumption) ?_; rotate_left 1; (focus (intro wS hSw; obtain ⟨hS1, hS2, hS3, hS4⟩ := hSw; go_simp <;> with_reducible rfl)); (try simp only [Act.put, List.setIfInBounds_toArray, List.set_cons_zero, List.set_cons_succ]))
                                (refine Lw.take1 (i := 10) (v := ?_) rfl (by kernel_rfl) (by kernel_rfl) (by kernel_rfl) (fun _ _ _ h => h) (Or.inl ⟨by rfl, ?_⟩) (by assumption) ?_; rotate_left 1; (focus (intro wS hSw; obtain ⟨hS1, hS2, hS3, hS4⟩ := hSw; go_simp <;> with_reducible rfl)); (try simp only [Act.put, List.setIfInBounds_toArray, List.set_cons_zero, List.set_cons_succ]))
                                (refine Lw.take1 (i := 11) (v := ?_) rfl (by kernel_rfl) (by kernel_rfl) (by kernel_rfl) (fun _ _ _ h => h) (Or.inl ⟨by rfl, ?_⟩) (by assumption) ?_; rotate_left 1; (focus (intro wS hSw; obtain ⟨hS1, hS2, hS3, hS4⟩ := hSw; go_simp <;> with_reducible rfl)); (try simp only [Act.put, List.setIfInBounds_toArray, List.set_cons_zero, List.set_cons_succ]))
                                (refine Lw.take1 (i := 12) (v := ?_) rfl (by kernel_rfl) (by kernel_rfl) (by kernel_rfl) (fun _ _ _ h => h) (Or.inl ⟨by rfl, ?_⟩) (by assumption) ?_; rotate_left 1; (focus (intro wS hSw; obtain ⟨hS1, hS2, hS3, hS4⟩ := hSw; go_simp <;> with_reducible rfl)); (try simp only [Act.put, List.setIfInBounds_toArray, List.set_cons_zero, List.set_cons_succ]))
                                (refine Lw.take1 (i := 13) (v := ?_) rfl (by kernel_rfl) (by kernel_rfl) (by kernel_rfl) (fun _ _ _ h => h) (Or.inl ⟨by rfl, ?_⟩) (by assumption) ?_; rotate_left 1; (focus (intro wS hSw; obtain ⟨hS1, hS2, hS3, hS4⟩ := hSw; go_simp <;> with_reducible rfl)); (try simp only [Act.put, List.setIfInBounds_toArray, List.set_cons_zero, List.set_cons_succ]))
                                (refine Lw.take1 (i := 14) (v := ?_) rfl (by kernel_rfl) (by kernel_rfl) (by kernel_rfl) (fun _ _ _ h => h) (Or.inl ⟨by rfl, ?_⟩) (by assumption) ?_; rotate_left 1; (focus (intro wS hSw; obtain ⟨hS1, hS2, hS3, hS4⟩ := hSw; go_simp <;> with_reducible rfl)); (try simp only [Act.put, List.setIfInBounds_toArray, List.set_cons_zero, List.set_cons_succ]))
                                (refine Lw.take1 (i := 15) (v := ?_) rfl (by kernel_rfl) (by kernel_rfl) (by kernel_rfl) (fun _ _ _ h => h) (Or.inl ⟨by rfl, ?_⟩) (by assumption) ?_; rotate_left 1; (focus (intro wS hSw; obtain ⟨hS1, hS2, hS3, hS4⟩ := hSw; go_simp <;> with_reducible rfl)); (try simp only [Act.put, List.setIfInBounds_toArray, List.set_cons_zero, List.set_cons_succ]))
                                (refine Lw.take1 (i := 16) (v := ?_) rfl (by kernel_rfl) (by kernel_rfl) (by kernel_rfl) (fun _ _ _ h => h) (Or.inl ⟨by rfl, ?_⟩) (by assumption) ?_; rotate_left 1; (focus (intro wS hSw; obtain ⟨hS1, hS2, hS3, hS4⟩ := hSw; go_simp <;> with_reducible rfl)); (try simp only [Act.put, List.setIfInBounds_toArray, List.set_cons_zero, List.set_cons_succ]))
                                (refine Lw.take1 (i := 17) (v := ?_) rfl (by kernel_rfl) (by kernel_rfl) (by kernel_rfl) (fun _ _ _ h => h) (Or.inl ⟨by rfl, ?_⟩) (by assumption) ?_; rotate_left 1; (focus (intro wS hSw; obtain ⟨hS1, hS2, hS3, hS4⟩ := hSw; go_simp <;> with_reducible rfl)); (try simp only [Act.put, List.setIfInBounds_toArray, List.set_cons_zero, List.set_cons_succ]))
                                (refine Lw.take1 (i := 18) (v := ?_) rfl (by kernel_rfl) (by kernel_rfl) (by kernel_rfl) (fun _ _ _ h => h) (Or.inl ⟨by rfl, ?_⟩) (by assumption) ?_; rotate_left 1; (focus (intro wS hSw; obtain ⟨hS1, hS2, hS3, hS4⟩ := hSw; go_simp <;> with_reducible rfl)); (try simp only [Act.put, List.setIfInBounds_toArray, List.set_cons_zero, List.set_cons_succ]))
                                (refine Lw.take1 (i := 19) (v := ?_) rfl (by kernel_rfl) (by kernel_rfl) (by kernel_rfl) (fun _ _ _ h => h) (Or.inl ⟨by rfl, ?_⟩) (by assumption) ?_; rotate_left 1; (focus (intro wS hSw; obtain ⟨hS1, hS2, hS3, hS4⟩ := hSw; go_simp <;> with_reducible rfl)); (try simp only [Act.put, List.setIfInBounds_toArray, List.set_cons_zero, List.set_cons_succ]))
                                (refine Lw.take1 (i := 20) (v := ?_) rfl (by kernel_rfl) (by kernel_rfl) (by kernel_rfl) (fun _ _ _ h => h) (Or.inl ⟨by rfl, ?_⟩) (by assumption) ?_; rotate_left 1; (focus (intro wS hSw; obtain ⟨hS1, hS2, hS3, hS4⟩ := hSw; go_simp <;> with_reducible rfl)); (try simp only [Act.put, List.setIfInBounds_toArray, List.set_cons_zero, List.set_cons_succ]))
                                (refine Lw.take1 (i := 21) (v := ?_) rfl (by kernel_rfl) (by kernel_rfl) (by kernel_rfl) (fun _ _ _ h => h) (Or.inl ⟨by rfl, ?_⟩) (by assumption) ?_; rotate_left 1; (focus (intro wS hSw; obtain ⟨hS1, hS2, hS3, hS4⟩ := hSw; go_simp <;> with_reducible rfl)); (try simp only [Act.put, List.setIfInBounds_toArray, List.set_cons_zero, List.set_cons_succ]))
                                (refine Lw.take1 (i := 22) (v := ?_) rfl (by kernel_rfl) (by kernel_rfl) (by kernel_rfl) (fun _ _ _ h => h) (Or.inl ⟨by rfl, ?_⟩) (by assumption) ?_; rotate_left 1; (focus (intro wS hSw; obtain ⟨hS1, hS2, hS3, hS4⟩ := hSw; go_simp <;> with_reducible rfl)); (try simp only [Act.put, List.setIfInBounds_toArray, List.set_cons_zero, List.set_cons_succ]))
                                (refine Lw.take1 (i := 23) (v := ?_) rfl (by kernel_rfl) (by kernel_rfl) (by kernel_rfl) (fun _ _ _ h => h) (Or.inl ⟨by rfl, ?_⟩) (by assumption) ?_; rotate_left 1; (focus (intro wS hSw; obtain ⟨hS1, hS2, hS3, hS4⟩ := hSw; go_simp <;> with_reducible rfl)); (try simp only [Act.put, List.setIfInBounds_toArray, List.set_cons_zero, List.set_cons_succ]))
                                (refine Lw.take1 (i := 24) (v := ?_) rfl (by kernel_rfl) (by kernel_rfl) (by kernel_rfl) (fun _ _ _ h => h) (Or.inl ⟨by rfl, ?_⟩) (by assumption) ?_; rotate_left 1; (focus (intro wS hSw; obtain ⟨hS1, hS2, hS3, hS4⟩ := hSw; go_simp <;> with_reducible rfl)); (try simp only [Act.put, List.setIfInBounds_toArray, List.set_cons_zero, List.set_cons_succ]))
                                (refine wpAnyH_ready (rs := [25]) (by kernel_rfl) (by simp) ?_; refine Lw.cons1 (i := 25) rfl (fun K hK => ?_) AllReadyH.nil; go_simp; refine hK.out _ _ ?_ (fun hHeld => ?_); (focus exact Q6.out _ (Lw.balloc hZ.drew _)); clear hK K; (try simp only [Act.put, List.setIfInBounds_toArray, List.set_cons_zero, List.set_cons_succ]))
                                (refine wpAnyH_ready (rs := [26]) (by kernel_rfl) (by simp) ?_; refine Lw.cons1 (i := 26) rfl (fun K hK => ?_) AllReadyH.nil; refine Lw.step_app elBol rfl _ _ rfl rfl ((Lw.own_drew OWN.out).alloc _) rfl (by exact Lw.Rd.lit (Lw.blk_new _ _ _) rfl rfl) (Lw.oneb _) (by omega) (Lw.balloc hZ.drew _) (Nat.le_refl _) (by show wk.heap.size ≤ (wr.alloc _).heap.size; simp; omega) ?_; intro v7 w7 own7 hb7 hg7 _; refine hK.out _ _ ?_ (fun hHeld => ?_); (focus exact Q6.out _ hb7); clear hK K; (try simp only [Act.put, List.setIfInBounds_toArray, List.set_cons_zero, List.set_cons_succ]))
                                (refine Lw.take1 (i := 27) (v := ?_) rfl (by kernel_rfl) (by kernel_rfl) (by kernel_rfl) (fun _ _ _ h => h) (Or.inl ⟨by rfl, ?_⟩) (by assumption) ?_; rotate_left 1; (focus (intro wS hSw; obtain ⟨hS1, hS2, hS3, hS4⟩ := hSw; go_simp <;> with_reducible rfl)); (try simp only [Act.put, List.setIfInBounds_toArray, List.set_cons_zero, List.set_cons_succ]))
                                refine wpAnyH_done (by kernel_rfl) ?_ _
                                have O7 := Lib.hid own7
                                clear own7 hg7
                                go_wp2_with fail
                                go_roundw
                                case rel => exact ⟨i + 1, by go_num, by omega, by rw [TS2.out]; exact O7.out, hb7⟩
                                case measure => simp [intOf]; omega

                              | true =>
                                have TS2 : Hid (Lw.bsV ((Lw.nxtRow c P R).take (i + 1)) = Lw.bsV ((Lw.nxtRow c P R).take i) ++ [.bool true]) := Lib.hid (by rw [TS]; rfl)
                                refine wp_region_held_drew (S := fun w' => w'.cell? (ad.add k) = some (.slice (some bd) (u + 1) c1) ∧ w'.cell? (ad.add a) = some (.slice (some pd) (u + 1) c2) ∧ w'.cell? (bd.add i) = some (.bool false) ∧ (w'.cell? (bd.add c) = some (.bool true) ∧ w'.cell? (pd.add i) = some (.bool true))) (by kernel_rfl) (by exact Q6.out _ hZ.drew) (fun hHeld => ?_)
                                (refine Lw.take1 (i := 0) (v := ?_) rfl (by kernel_rfl) (by kernel_rfl) (by kernel_rfl) (fun _ _ _ h => h) (Or.inl ⟨by rfl, ?_⟩) (by assumption) ?_; rotate_left 1; (focus (intro wS hSw; obtain ⟨hS1, hS2, hS3, hS4⟩ := hSw; go_simp <;> with_reducible rfl)); (try simp only [Act.put, List.setIfInBounds_toArray, List.set_cons_zero, List.set_cons_succ]))
                                (refine Lw.take1 (i := 1) (v := ?_) rfl (by kernel_rfl) (by kernel_rfl) (by kernel_rfl) (fun _ _ _ h => h) (Or.inl ⟨by rfl, ?_⟩) (by assumption) ?_; rotate_left 1; (focus (intro wS hSw; obtain ⟨hS1, hS2, hS3, hS4⟩ := hSw; go_simp <;> with_reducible rfl)); (try simp only [Act.put, List.setIfInBounds_toArray, List.set_cons_zero, List.set_cons_succ]))
                                (refine Lw.take1 (i := 2) (v := ?_) rfl (by kernel_rfl) (by kernel_rfl) (by kernel_rfl) (fun _ _ _ h => h) (Or.inl ⟨by rfl, ?_⟩) (by assumption) ?_; rotate_left 1; (focus (intro wS hSw; obtain ⟨hS1, hS2, hS3, hS4⟩ := hSw; go_simp <;> with_reducible rfl)); (try simp only [Act.put, List.setIfInBounds_toArray, List.set_cons_zero, List.set_cons_succ]))
                                (refine Lw.take1 (i := 3) (v := ?_) rfl (by kernel_rfl) (by kernel_rfl) (by kernel_rfl) (fun _ _ _ h => h) (Or.inl ⟨by rfl, ?_⟩) (by assumption) ?_; rotate_left 1; (focus (intro wS hSw; obtain ⟨hS1, hS2, hS3, hS4⟩ := hSw; go_simp <;> with_reducible rfl)); (try simp only [Act.put, List.setIfInBounds_toArray, List.set_cons_zero, List.set_cons_succ]))
                                (refine Lw.take1 (i := 4) (v := ?_) rfl (by kernel_rfl) (by kernel_rfl) (by kernel_rfl) (fun _ _ _ h => h) (Or.inl ⟨by rfl, ?_⟩) (by assumption) ?_; rotate_left 1; (focus (intro wS hSw; obtain ⟨hS1, hS2, hS3, hS4⟩ := hSw; go_simp <;> with_reducible rfl)); (try simp only [Act.put, List.setIfInBounds_toArray, List.set_cons_zero, List.set_cons_succ]))
                                (refine Lw.take1 (i := 5) (v := ?_) rfl (by kernel_rfl) (by kernel_rfl) (by kernel_rfl) (fun _ _ _ h => h) (Or.inl ⟨by rfl, ?_⟩) (by assumption) ?_; rotate_left 1; (focus (intro wS hSw; obtain ⟨hS1, hS2, hS3, hS4⟩ := hSw; go_simp <;> with_reducible rfl)); (try simp only [Act.put, List.setIfInBounds_toArray, List.set_cons_zero, List.set_cons_succ]))
                                (refine Lw.take1 (i := 6) (v := ?_) rfl (by kernel_rfl) (by kernel_rfl) (by kernel_rfl) (fun _ _ _ h => h) (Or.inl ⟨by rfl, ?_⟩) (by assumption) ?_; rotate_left 1; (focus (intro wS hSw; obtain ⟨hS1, hS2, hS3, hS4⟩ := hSw; go_simp <;> with_reducible rfl)); (try simp only [Act.put, List.setIfInBounds_toArray, List.set_cons_zero, List.set_cons_succ]))
                                (refine Lw.take1 (i := 7) (v := ?_) rfl (by kernel_rfl) (by kernel_rfl) (by kernel_rfl) (fun _ _ _ h => h) (Or.inl ⟨by rfl, ?_⟩) (by assumption) ?_; rotate_left 1; (focus (intro wS hSw; obtain ⟨hS1, hS2, hS3, hS4⟩ := hSw; go_simp <;> with_reducible rfl)); (try simp only [Act.put, List.setIfInBounds_toArray, List.set_cons_zero, List.set_cons_succ]))
                                (refine Lw.take1 (i := 8) (v := ?_) rfl (by kernel_rfl) (by kernel_rfl) (by kernel_rfl) (fun _ _ _ h => h) (Or.inl ⟨by rfl, ?_⟩) (by assumption) ?_; rotate_left 1; (focus (intro wS hSw; obtain ⟨hS1, hS2, hS3, hS4⟩ := hSw; go_simp <;> with_reducible rfl)); (try simp only [Act.put, List.setIfInBounds_toArray, List.set_cons_zero, List.set_cons_succ]))
                                (refine Lw.take1 (i := 9) (v := ?_) rfl (by kernel_rfl) (by kernel_rfl) (by kernel_rfl) (fun _ _ _ h => h) (Or.inl ⟨by rfl, ?_⟩) (by assumption) ?_; rotate_left 1; (focus (intro wS hSw; obtain ⟨hS1, hS2, hS3, hS4⟩ := hSw; go_simp <;> with_reducible rfl)); (try simp only [Act.put, List.setIfInBounds_toArray, List.set_cons_zero, List.set_cons_succ]))
                                (refine Lw.take1 (i := 10) (v := ?_) rfl (by kernel_rfl) (by kernel_rfl) (by kernel_rfl) (fun _ _ _ h => h) (Or.inl ⟨by rfl, ?_⟩) (by assumption) ?_; rotate_left 1; (focus (intro wS hSw; obtain ⟨hS1, hS2, hS3, hS4⟩ := hSw; go_simp <;> with_reducible rfl)); (try simp only [Act.put, List.setIfInBounds_toArray, List.set_cons_zero, List.set_cons_succ]))
                                (refine Lw.take1 (i := 11) (v := ?_) rfl (by kernel_rfl) (by kernel_rfl) (by kernel_rfl) (fun _ _ _ h => h) (Or.inl ⟨by rfl, ?_⟩) (by assumption) ?_; rotate_left 1; (focus (intro wS hSw; obtain ⟨hS1, hS2, hS3, hS4⟩ := hSw; go_simp <;> with_reducible rfl)); (try simp only [Act.put, List.setIfInBounds_toArray, List.set_cons_zero, List.set_cons_succ]))
                                (refine Lw.take1 (i := 12) (v := ?_) rfl (by kernel_rfl) (by kernel_rfl) (by kernel_rfl) (fun _ _ _ h => h) (Or.inl ⟨by rfl, ?_⟩) (by assumption) ?_; rotate_left 1; (focus (intro wS hSw; obtain ⟨hS1, hS2, hS3, hS4⟩ := hSw; go_simp <;> with_reducible rfl)); (try simp only [Act.put, List.setIfInBounds_toArray, List.set_cons_zero, List.set_cons_succ]))
                                (refine Lw.take1 (i := 13) (v := ?_) rfl (by kernel_rfl) (by kernel_rfl) (by kernel_rfl) (fun _ _ _ h => h) (Or.inl ⟨by rfl, ?_⟩) (by assumption) ?_; rotate_left 1; (focus (intro wS hSw; obtain ⟨hS1, hS2, hS3, hS4⟩ := hSw; go_simp <;> with_reducible rfl)); (try simp only [Act.put, List.setIfInBounds_toArray, List.set_cons_zero, List.set_cons_succ]))
                                (refine Lw.take1 (i := 14) (v := ?_) rfl (by kernel_rfl) (by kernel_rfl) (by kernel_rfl) (fun _ _ _ h => h) (Or.inl ⟨by rfl, ?_⟩) (by assumption) ?_; rotate_left 1; (focus (intro wS hSw; obtain ⟨hS1, hS2, hS3, hS4⟩ := hSw; go_simp <;> with_reducible rfl)); (try simp only [Act.put, List.setIfInBounds_toArray, List.set_cons_zero, List.set_cons_succ]))
                                (refine Lw.take1 (i := 15) (v := ?_) rfl (by kernel_rfl) (by kernel_rfl) (by kernel_rfl) (fun _ _ _ h => h) (Or.inl ⟨by rfl, ?_⟩) (by assumption) ?_; rotate_left 1; (focus (intro wS hSw; obtain ⟨hS1, hS2, hS3, hS4⟩ := hSw; go_simp <;> with_reducible rfl)); (try simp only [Act.put, List.setIfInBounds_toArray, List.set_cons_zero, List.set_cons_succ]))
                                (refine Lw.take1 (i := 16) (v := ?_) rfl (by kernel_rfl) (by kernel_rfl) (by kernel_rfl) (fun _ _ _ h => h) (Or.inl ⟨by rfl, ?_⟩) (by assumption) ?_; rotate_left 1; (focus (intro wS hSw; obtain ⟨hS1, hS2, hS3, hS4⟩ := hSw; go_simp <;> with_reducible rfl)); (try simp only [Act.put, List.setIfInBounds_toArray, List.set_cons_zero, List.set_cons_succ]))
                                (refine Lw.take1 (i := 17) (v := ?_) rfl (by kernel_rfl) (by kernel_rfl) (by kernel_rfl) (fun _ _ _ h => h) (Or.inl ⟨by rfl, ?_⟩) (by assumption) ?_; rotate_left 1; (focus (intro wS hSw; obtain ⟨hS1, hS2, hS3, hS4⟩ := hSw; go_simp <;> with_reducible rfl)); (try simp only [Act.put, List.setIfInBounds_toArray, List.set_cons_zero, List.set_cons_succ]))
                                (refine Lw.take1 (i := 18) (v := ?_) rfl (by kernel_rfl) (by kernel_rfl) (by kernel_rfl) (fun _ _ _ h => h) (Or.inl ⟨by rfl, ?_⟩) (by assumption) ?_; rotate_left 1; (focus (intro wS hSw; obtain ⟨hS1, hS2, hS3, hS4⟩ := hSw; go_simp <;> with_reducible rfl)); (try simp only [Act.put, List.setIfInBounds_toArray, List.set_cons_zero, List.set_cons_succ]))
                                (refine Lw.take1 (i := 19) (v := ?_) rfl (by kernel_rfl) (by kernel_rfl) (by kernel_rfl) (fun _ _ _ h => h) (Or.inl ⟨by rfl, ?_⟩) (by assumption) ?_; rotate_left 1; (focus (intro wS hSw; obtain ⟨hS1, hS2, hS3, hS4⟩ := hSw; go_simp <;> with_reducible rfl)); (try simp only [Act.put, List.setIfInBounds_toArray, List.set_cons_zero, List.set_cons_succ]))
                                (refine Lw.take1 (i := 20) (v := ?_) rfl (by kernel_rfl) (by kernel_rfl) (by kernel_rfl) (fun _ _ _ h => h) (Or.inl ⟨by rfl, ?_⟩) (by assumption) ?_; rotate_left 1; (focus (intro wS hSw; obtain ⟨hS1, hS2, hS3, hS4⟩ := hSw; go_simp <;> with_reducible rfl)); (try simp only [Act.put, List.setIfInBounds_toArray, List.set_cons_zero, List.set_cons_succ]))
                                (refine Lw.take1 (i := 21) (v := ?_) rfl (by kernel_rfl) (by kernel_rfl) (by kernel_rfl) (fun _ _ _ h => h) (Or.inl ⟨by rfl, ?_⟩) (by assumption) ?_; rotate_left 1; (focus (intro wS hSw; obtain ⟨hS1, hS2, hS3, hS4⟩ := hSw; go_simp <;> with_reducible rfl)); (try simp only [Act.put, List.setIfInBounds_toArray, List.set_cons_zero, List.set_cons_succ]))
                                (refine Lw.take1 (i := 22) (v := ?_) rfl (by kernel_rfl) (by kernel_rfl) (by kernel_rfl) (fun _ _ _ h => h) (Or.inl ⟨by rfl, ?_⟩) (by assumption) ?_; rotate_left 1; (focus (intro wS hSw; obtain ⟨hS1, hS2, hS3, hS4⟩ := hSw; go_simp <;> with_reducible rfl)); (try simp only [Act.put, List.setIfInBounds_toArray, List.set_cons_zero, List.set_cons_succ]))
                                (refine Lw.take1 (i := 23) (v := ?_) rfl (by kernel_rfl) (by kernel_rfl) (by kernel_rfl) (fun _ _ _ h => h) (Or.inl ⟨by rfl, ?_⟩) (by assumption) ?_; rotate_left 1; (focus (intro wS hSw; obtain ⟨hS1, hS2, hS3, hS4⟩ := hSw; go_simp <;> with_reducible rfl)); (try simp only [Act.put, List.setIfInBounds_toArray, List.set_cons_zero, List.set_cons_succ]))
                                (refine Lw.take1 (i := 24) (v := ?_) rfl (by kernel_rfl) (by kernel_rfl) (by kernel_rfl) (fun _ _ _ h => h) (Or.inl ⟨by rfl, ?_⟩) (by assumption) ?_; rotate_left 1; (focus (intro wS hSw; obtain ⟨hS1, hS2, hS3, hS4⟩ := hSw; go_simp <;> with_reducible rfl)); (try simp only [Act.put, List.setIfInBounds_toArray, List.set_cons_zero, List.set_cons_succ]))
                                (refine wpAnyH_ready (rs := [25]) (by kernel_rfl) (by simp) ?_; refine Lw.cons1 (i := 25) rfl (fun K hK => ?_) AllReadyH.nil; go_simp; refine hK.out _ _ ?_ (fun hHeld => ?_); (focus exact Q6.out _ (Lw.balloc hZ.drew _)); clear hK K; (try simp only [Act.put, List.setIfInBounds_toArray, List.set_cons_zero, List.set_cons_succ]))
                                (refine wpAnyH_ready (rs := [26]) (by kernel_rfl) (by simp) ?_; refine Lw.cons1 (i := 26) rfl (fun K hK => ?_) AllReadyH.nil; refine Lw.step_app elBol rfl _ _ rfl rfl ((Lw.own_drew OWN.out).alloc _) rfl (by exact Lw.Rd.lit (Lw.blk_new _ _ _) rfl rfl) (Lw.oneb _) (by omega) (Lw.balloc hZ.drew _) (Nat.le_refl _) (by show wk.heap.size ≤ (wr.alloc _).heap.size; simp; omega) ?_; intro v7 w7 own7 hb7 hg7 _; refine hK.out _ _ ?_ (fun hHeld => ?_); (focus exact Q6.out _ hb7); clear hK K; (try simp only [Act.put, List.setIfInBounds_toArray, List.set_cons_zero, List.set_cons_succ]))
                                (refine Lw.take1 (i := 27) (v := ?_) rfl (by kernel_rfl) (by kernel_rfl) (by kernel_rfl) (fun _ _ _ h => h) (Or.inl ⟨by rfl, ?_⟩) (by assumption) ?_; rotate_left 1; (focus (intro wS hSw; obtain ⟨hS1, hS2, hS3, hS4⟩ := hSw; go_simp <;> with_reducible rfl)); (try simp only [Act.put, List.setIfInBounds_toArray, List.set_cons_zero, List.set_cons_succ]))
                                refine wpAnyH_done (by kernel_rfl) ?_ _
                                have O7 := Lib.hid own7
                                clear own7 hg7
                                go_wp2_with fail
                                go_roundw
                                case rel => exact ⟨i + 1, by go_num, by omega, by rw [TS2.out]; exact O7.out, hb7⟩
                                case measure => simp [intOf]; omega

                            | true => cases z with
                              | false =>
                                have TS2 : Hid (Lw.bsV ((Lw.nxtRow c P R).take (i + 1)) = Lw.bsV ((Lw.nxtRow c P R).take i) ++ [.bool true]) := Lib.hid (by rw [TS]; rfl)
                                refine wp_region_held_drew (S := fun w' => w'.cell? (ad.add k) = some (.slice (some bd) (u + 1) c1) ∧ w'.cell? (ad.add a) = some (.slice (some pd) (u + 1) c2) ∧ w'.cell? (bd.add i) = some (.bool true) ∧ (w'.cell? (bd.add c) = some (.bool true) ∧ w'.cell? (pd.add i) = some (.bool false))) (by kernel_rfl) (by exact Q6.out _ hZ.drew) (fun hHeld => ?_)
                                (refine Lw.take1 (i := 0) (v := ?_) rfl (by kernel_rfl) (by kernel_rfl) (by kernel_rfl) (fun _ _ _ h => h) (Or.inl ⟨by rfl, ?_⟩) (by assumption) ?_; rotate_left 1; (focus (intro wS hSw; obtain ⟨hS1, hS2, hS3, hS4⟩ := hSw; go_simp <;> with_reducible rfl)); (try simp only [Act.put, List.setIfInBounds_toArray, List.set_cons_zero, List.set_cons_succ]))
                                (refine Lw.take1 (i := 1) (v := ?_) rfl (by kernel_rfl) (by kernel_rfl) (by kernel_rfl) (fun _ _ _ h => h) (Or.inl ⟨by rfl, ?_⟩) (by assumption) ?_; rotate_left 1; (focus (intro wS hSw; obtain ⟨hS1, hS2, hS3, hS4⟩ := hSw; go_simp <;> with_reducible rfl)); (try simp only [Act.put, List.setIfInBounds_toArray, List.set_cons_zero, List.set_cons_succ]))
                                (refine Lw.take1 (i := 2) (v := ?_) rfl (by kernel_rfl) (by kernel_rfl) (by kernel_rfl) (fun _ _ _ h => h) (Or.inl ⟨by rfl, ?_⟩) (by assumption) ?_; rotate_left 1; (focus (intro wS hSw; obtain ⟨hS1, hS2, hS3, hS4⟩ := hSw; go_simp <;> with_reducible rfl)); (try simp only [Act.put, List.setIfInBounds_toArray, List.set_cons_zero, List.set_cons_succ]))
                                (refine Lw.take1 (i := 3) (v := ?_) rfl (by kernel_rfl) (by kernel_rfl) (by kernel_rfl) (fun _ _ _ h => h) (Or.inl ⟨by rfl, ?_⟩) (by assumption) ?_; rotate_left 1; (focus (intro wS hSw; obtain ⟨hS1, hS2, hS3, hS4⟩ := hSw; go_simp <;> with_reducible rfl)); (try simp only [Act.put, List.setIfInBounds_toArray, List.set_cons_zero, List.set_cons_succ]))
                                (refine Lw.take1 (i := 4) (v := ?_) rfl (by kernel_rfl) (by kernel_rfl) (by kernel_rfl) (fun _ _ _ h => h) (Or.inl ⟨by rfl, ?_⟩) (by assumption) ?_; rotate_left 1; (focus (intro wS hSw; obtain ⟨hS1, hS2, hS3, hS4⟩ := hSw; go_simp <;> with_reducible rfl)); (try simp only [Act.put, List.setIfInBounds_toArray, List.set_cons_zero, List.set_cons_succ]))
                                (refine Lw.take1 (i := 5) (v := ?_) rfl (by kernel_rfl) (by kernel_rfl) (by kernel_rfl) (fun _ _ _ h => h) (Or.inl ⟨by rfl, ?_⟩) (by assumption) ?_; rotate_left 1; (focus (intro wS hSw; obtain ⟨hS1, hS2, hS3, hS4⟩ := hSw; go_simp <;> with_reducible rfl)); (try simp only [Act.put, List.setIfInBounds_toArray, List.set_cons_zero, List.set_cons_succ]))
                                (refine Lw.take1 (i := 6) (v := ?_) rfl (by kernel_rfl) (by kernel_rfl) (by kernel_rfl) (fun _ _ _ h => h) (Or.inl ⟨by rfl, ?_⟩) (by assumption) ?_; rotate_left 1; (focus (intro wS hSw; obtain ⟨hS1, hS2, hS3, hS4⟩ := hSw; go_simp <;> with_reducible rfl)); (try simp only [Act.put, List.setIfInBounds_toArray, List.set_cons_zero, List.set_cons_succ]))
                                (refine Lw.take1 (i := 7) (v := ?_) rfl (by kernel_rfl) (by kernel_rfl) (by kernel_rfl) (fun _ _ _ h => h) (Or.inl ⟨by rfl, ?_⟩) (by assumption) ?_; rotate_left 1; (focus (intro wS hSw; obtain ⟨hS1, hS2, hS3, hS4⟩ := hSw; go_simp <;> with_reducible rfl)); (try simp only [Act.put, List.setIfInBounds_toArray, List.set_cons_zero, List.set_cons_succ]))
                                (refine Lw.take1 (i := 8) (v := ?_) rfl (by kernel_rfl) (by kernel_rfl) (by kernel_rfl) (fun _ _ _ h => h) (Or.inl ⟨by rfl, ?_⟩) (by assumption) ?_; rotate_left 1; (focus (intro wS hSw; obtain ⟨hS1, hS2, hS3, hS4⟩ := hSw; go_simp <;> with_reducible rfl)); (try simp only [Act.put, List.setIfInBounds_toArray, List.set_cons_zero, List.set_cons_succ]))
                                (refine Lw.take1 (i := 9) (v := ?_) rfl (by kernel_rfl) (by kernel_rfl) (by kernel_rfl) (fun _ _ _ h => h) (Or.inl ⟨by rfl, ?_⟩) (by assumption) ?_; rotate_left 1; (focus (intro wS hSw; obtain ⟨hS1, hS2, hS3, hS4⟩ := hSw; go_simp <;> with_reducible rfl)); (try simp only [Act.put, List.setIfInBounds_toArray, List.set_cons_zero, List.set_cons_succ]))
                                (refine Lw.take1 (i := 10) (v := ?_) rfl (by kernel_rfl) (by kernel_rfl) (by kernel_rfl) (fun _ _ _ h => h) (Or.inl ⟨by rfl, ?_⟩) (by assumption) ?_; rotate_left 1; (focus (intro wS hSw; obtain ⟨hS1, hS2, hS3, hS4⟩ := hSw; go_simp <;> with_reducible rfl)); (try simp only [Act.put, List.setIfInBounds_toArray, List.set_cons_zero, List.set_cons_succ]))
                                (refine Lw.take1 (i := 11) (v := ?_) rfl (by kernel_rfl) (by kernel_rfl) (by kernel_rfl) (fun _ _ _ h => h) (Or.inl ⟨by rfl, ?_⟩) (by assumption) ?_; rotate_left 1; (focus (intro wS hSw; obtain ⟨hS1, hS2, hS3, hS4⟩ := hSw; go_simp <;> with_reducible rfl)); (try simp only [Act.put, List.setIfInBounds_toArray, List.set_cons_zero, List.set_cons_succ]))
                                (refine Lw.take1 (i := 12) (v := ?_) rfl (by kernel_rfl) (by kernel_rfl) (by kernel_rfl) (fun _ _ _ h => h) (Or.inl ⟨by rfl, ?_⟩) (by assumption) ?_; rotate_left 1; (focus (intro wS hSw; obtain ⟨hS1, hS2, hS3, hS4⟩ := hSw; go_simp <;> with_reducible rfl)); (try simp only [Act.put, List.setIfInBounds_toArray, List.set_cons_zero, List.set_cons_succ]))
                                (refine Lw.take1 (i := 13) (v := ?_) rfl (by kernel_rfl) (by kernel_rfl) (by kernel_rfl) (fun _ _ _ h => h) (Or.inl ⟨by rfl, ?_⟩) (by assumption) ?_; rotate_left 1; (focus (intro wS hSw; obtain ⟨hS1, hS2, hS3, hS4⟩ := hSw; go_simp <;> with_reducible rfl)); (try simp only [Act.put, List.setIfInBounds_toArray, List.set_cons_zero, List.set_cons_succ]))
                                (refine Lw.take1 (i := 14) (v := ?_) rfl (by kernel_rfl) (by kernel_rfl) (by kernel_rfl) (fun _ _ _ h => h) (Or.inl ⟨by rfl, ?_⟩) (by assumption) ?_; rotate_left 1; (focus (intro wS hSw; obtain ⟨hS1, hS2, hS3, hS4⟩ := hSw; go_simp <;> with_reducible rfl)); (try simp only [Act.put, List.setIfInBounds_toArray, List.set_cons_zero, List.set_cons_succ]))
                                (refine Lw.take1 (i := 15) (v := ?_) rfl (by kernel_rfl) (by kernel_rfl) (by kernel_rfl) (fun _ _ _ h => h) (Or.inl ⟨by rfl, ?_⟩) (by assumption) ?_; rotate_left 1; (focus (intro wS hSw; obtain ⟨hS1, hS2, hS3, hS4⟩ := hSw; go_simp <;> with_reducible rfl)); (try simp only [Act.put, List.setIfInBounds_toArray, List.set_cons_zero, List.set_cons_succ]))
                                (refine Lw.take1 (i := 16) (v := ?_) rfl (by kernel_rfl) (by kernel_rfl) (by kernel_rfl) (fun _ _ _ h => h) (Or.inl ⟨by rfl, ?_⟩) (by assumption) ?_; rotate_left 1; (focus (intro wS hSw; obtain ⟨hS1, hS2, hS3, hS4⟩ := hSw; go_simp <;> with_reducible rfl)); (try simp only [Act.put, List.setIfInBounds_toArray, List.set_cons_zero, List.set_cons_succ]))
                                (refine Lw.take1 (i := 17) (v := ?_) rfl (by kernel_rfl) (by kernel_rfl) (by kernel_rfl) (fun _ _ _ h => h) (Or.inl ⟨by rfl, ?_⟩) (by assumption) ?_; rotate_left 1; (focus (intro wS hSw; obtain ⟨hS1, hS2, hS3, hS4⟩ := hSw; go_simp <;> with_reducible rfl)); (try simp only [Act.put, List.setIfInBounds_toArray, List.set_cons_zero, List.set_cons_succ]))
                                (refine Lw.take1 (i := 18) (v := ?_) rfl (by kernel_rfl) (by kernel_rfl) (by kernel_rfl) (fun _ _ _ h => h) (Or.inl ⟨by rfl, ?_⟩) (by assumption) ?_; rotate_left 1; (focus (intro wS hSw; obtain ⟨hS1, hS2, hS3, hS4⟩ := hSw; go_simp <;> with_reducible rfl)); (try simp only [Act.put, List.setIfInBounds_toArray, List.set_cons_zero, List.set_cons_succ]))
                                (refine Lw.take1 (i := 19) (v := ?_) rfl (by kernel_rfl) (by kernel_rfl) (by kernel_rfl) (fun _ _ _ h => h) (Or.inl ⟨by rfl, ?_⟩) (by assumption) ?_; rotate_left 1; (focus (intro wS hSw; obtain ⟨hS1, hS2, hS3, hS4⟩ := hSw; go_simp <;> with_reducible rfl)); (try simp only [Act.put, List.setIfInBounds_toArray, List.set_cons_zero, List.set_cons_succ]))
                                (refine Lw.take1 (i := 20) (v := ?_) rfl (by kernel_rfl) (by kernel_rfl) (by kernel_rfl) (fun _ _ _ h => h) (Or.inl ⟨by rfl, ?_⟩) (by assumption) ?_; rotate_left 1; (focus (intro wS hSw; obtain ⟨hS1, hS2, hS3, hS4⟩ := hSw; go_simp <;> with_reducible rfl)); (try simp only [Act.put, List.setIfInBounds_toArray, List.set_cons_zero, List.set_cons_succ]))
                                (refine Lw.take1 (i := 21) (v := ?_) rfl (by kernel_rfl) (by kernel_rfl) (by kernel_rfl) (fun _ _ _ h => h) (Or.inl ⟨by rfl, ?_⟩) (by assumption) ?_; rotate_left 1; (focus (intro wS hSw; obtain ⟨hS1, hS2, hS3, hS4⟩ := hSw; go_simp <;> with_reducible rfl)); (try simp only [Act.put, List.setIfInBounds_toArray, List.set_cons_zero, List.set_cons_succ]))
                                (refine Lw.take1 (i := 22) (v := ?_) rfl (by kernel_rfl) (by kernel_rfl) (by kernel_rfl) (fun _ _ _ h => h) (Or.inl ⟨by rfl, ?_⟩) (by assumption) ?_; rotate_left 1; (focus (intro wS hSw; obtain ⟨hS1, hS2, hS3, hS4⟩ := hSw; go_simp <;> with_reducible rfl)); (try simp only [Act.put, List.setIfInBounds_toArray, List.set_cons_zero, List.set_cons_succ]))
                                (refine Lw.take1 (i := 23) (v := ?_) rfl (by kernel_rfl) (by kernel_rfl) (by kernel_rfl) (fun _ _ _ h => h) (Or.inl ⟨by rfl, ?_⟩) (by assumption) ?_; rotate_left 1; (focus (intro wS hSw; obtain ⟨hS1, hS2, hS3, hS4⟩ := hSw; go_simp <;> with_reducible rfl)); (try simp only [Act.put, List.setIfInBounds_toArray, List.set_cons_zero, List.set_cons_succ]))
                                (refine Lw.take1 (i := 24) (v := ?_) rfl (by kernel_rfl) (by kernel_rfl) (by kernel_rfl) (fun _ _ _ h => h) (Or.inl ⟨by rfl, ?_⟩) (by assumption) ?_; rotate_left 1; (focus (intro wS hSw; obtain ⟨hS1, hS2, hS3, hS4⟩ := hSw; go_simp <;> with_reducible rfl)); (try simp only [Act.put, List.setIfInBounds_toArray, List.set_cons_zero, List.set_cons_succ]))
                                (refine wpAnyH_ready (rs := [25]) (by kernel_rfl) (by simp) ?_; refine Lw.cons1 (i := 25) rfl (fun K hK => ?_) AllReadyH.nil; go_simp; refine hK.out _ _ ?_ (fun hHeld => ?_); (focus exact Q6.out _ (Lw.balloc hZ.drew _)); clear hK K; (try simp only [Act.put, List.setIfInBounds_toArray, List.set_cons_zero, List.set_cons_succ]))
                                (refine wpAnyH_ready (rs := [26]) (by kernel_rfl) (by simp) ?_; refine Lw.cons1 (i := 26) rfl (fun K hK => ?_) AllReadyH.nil; refine Lw.step_app elBol rfl _ _ rfl rfl ((Lw.own_drew OWN.out).alloc _) rfl (by exact Lw.Rd.lit (Lw.blk_new _ _ _) rfl rfl) (Lw.oneb _) (by omega) (Lw.balloc hZ.drew _) (Nat.le_refl _) (by show wk.heap.size ≤ (wr.alloc _).heap.size; simp; omega) ?_; intro v7 w7 own7 hb7 hg7 _; refine hK.out _ _ ?_ (fun hHeld => ?_); (focus exact Q6.out _ hb7); clear hK K; (try simp only [Act.put, List.setIfInBounds_toArray, List.set_cons_zero, List.set_cons_succ]))
                                (refine Lw.take1 (i := 27) (v := ?_) rfl (by kernel_rfl) (by kernel_rfl) (by kernel_rfl) (fun _ _ _ h => h) (Or.inl ⟨by rfl, ?_⟩) (by assumption) ?_; rotate_left 1; (focus (intro wS hSw; obtain ⟨hS1, hS2, hS3, hS4⟩ := hSw; go_simp <;> with_reducible rfl)); (try simp only [Act.put, List.setIfInBounds_toArray, List.set_cons_zero, List.set_cons_succ]))
                                refine wpAnyH_done (by kernel_rfl) ?_ _
                                have O7 := Lib.hid own7
                                clear own7 hg7
                                go_wp2_with fail
                                go_roundw
                                case rel => exact ⟨i + 1, by go_num, by omega, by rw [TS2.out]; exact O7.out, hb7⟩
                                case measure => simp [intOf]; omega

                              | true =>
                                have TS2 : Hid (Lw.bsV ((Lw.nxtRow c P R).take (i + 1)) = Lw.bsV ((Lw.nxtRow c P R).take i) ++ [.bool false]) := Lib.hid (by rw [TS]; rfl)
                                refine wp_region_held_drew (S := fun w' => w'.cell? (ad.add k) = some (.slice (some bd) (u + 1) c1) ∧ w'.cell? (ad.add a) = some (.slice (some pd) (u + 1) c2) ∧ w'.cell? (bd.add i) = some (.bool true) ∧ (w'.cell? (bd.add c) = some (.bool true) ∧ w'.cell? (pd.add i) = some (.bool true))) (by kernel_rfl) (by exact Q6.out _ hZ.drew) (fun hHeld => ?_)
                                (refine Lw.take1 (i := 0) (v := ?_) rfl (by kernel_rfl) (by kernel_rfl) (by kernel_rfl) (fun _ _ _ h => h) (Or.inl ⟨by rfl, ?_⟩) (by assumption) ?_; rotate_left 1; (focus (intro wS hSw; obtain ⟨hS1, hS2, hS3, hS4⟩ := hSw; go_simp <;> with_reducible rfl)); (try simp only [Act.put, List.setIfInBounds_toArray, List.set_cons_zero, List.set_cons_succ]))
                                (refine Lw.take1 (i := 1) (v := ?_) rfl (by kernel_rfl) (by kernel_rfl) (by kernel_rfl) (fun _ _ _ h => h) (Or.inl ⟨by rfl, ?_⟩) (by assumption) ?_; rotate_left 1; (focus (intro wS hSw; obtain ⟨hS1, hS2, hS3, hS4⟩ := hSw; go_simp <;> with_reducible rfl)); (try simp only [Act.put, List.setIfInBounds_toArray, List.set_cons_zero, List.set_cons_succ]))
                                (refine Lw.take1 (i := 2) (v := ?_) rfl (by kernel_rfl) (by kernel_rfl) (by kernel_rfl) (fun _ _ _ h => h) (Or.inl ⟨by rfl, ?_⟩) (by assumption) ?_; rotate_left 1; (focus (intro wS hSw; obtain ⟨hS1, hS2, hS3, hS4⟩ := hSw; go_simp <;> with_reducible rfl)); (try simp only [Act.put, List.setIfInBounds_toArray, List.set_cons_zero, List.set_cons_succ]))
                                (refine Lw.take1 (i := 3) (v := ?_) rfl (by kernel_rfl) (by kernel_rfl) (by kernel_rfl) (fun _ _ _ h => h) (Or.inl ⟨by rfl, ?_⟩) (by assumption) ?_; rotate_left 1; (focus (intro wS hSw; obtain ⟨hS1, hS2, hS3, hS4⟩ := hSw; go_simp <;> with_reducible rfl)); (try simp only [Act.put, List.setIfInBounds_toArray, List.set_cons_zero, List.set_cons_succ]))
                                (refine Lw.take1 (i := 4) (v := ?_) rfl (by kernel_rfl) (by kernel_rfl) (by kernel_rfl) (fun _ _ _ h => h) (Or.inl ⟨by rfl, ?_⟩) (by assumption) ?_; rotate_left 1; (focus (intro wS hSw; obtain ⟨hS1, hS2, hS3, hS4⟩ := hSw; go_simp <;> with_reducible rfl)); (try simp only [Act.put, List.setIfInBounds_toArray, List.set_cons_zero, List.set_cons_succ]))
                                (refine Lw.take1 (i := 5) (v := ?_) rfl (by kernel_rfl) (by kernel_rfl) (by kernel_rfl) (fun _ _ _ h => h) (Or.inl ⟨by rfl, ?_⟩) (by assumption) ?_; rotate_left 1; (focus (intro wS hSw; obtain ⟨hS1, hS2, hS3, hS4⟩ := hSw; go_simp <;> with_reducible rfl)); (try simp only [Act.put, List.setIfInBounds_toArray, List.set_cons_zero, List.set_cons_succ]))
                                (refine Lw.take1 (i := 6) (v := ?_) rfl (by kernel_rfl) (by kernel_rfl) (by kernel_rfl) (fun _ _ _ h => h) (Or.inl ⟨by rfl, ?_⟩) (by assumption) ?_; rotate_left 1; (focus (intro wS hSw; obtain ⟨hS1, hS2, hS3, hS4⟩ := hSw; go_simp <;> with_reducible rfl)); (try simp only [Act.put, List.setIfInBounds_toArray, List.set_cons_zero, List.set_cons_succ]))
                                (refine Lw.take1 (i := 7) (v := ?_) rfl (by kernel_rfl) (by kernel_rfl) (by kernel_rfl) (fun _ _ _ h => h) (Or.inl ⟨by rfl, ?_⟩) (by assumption) ?_; rotate_left 1; (focus (intro wS hSw; obtain ⟨hS1, hS2, hS3, hS4⟩ := hSw; go_simp <;> with_reducible rfl)); (try simp only [Act.put, List.setIfInBounds_toArray, List.set_cons_zero, List.set_cons_succ]))
                                (refine Lw.take1 (i := 8) (v := ?_) rfl (by kernel_rfl) (by kernel_rfl) (by kernel_rfl) (fun _ _ _ h => h) (Or.inl ⟨by rfl, ?_⟩) (by assumption) ?_; rotate_left 1; (focus (intro wS hSw; obtain ⟨hS1, hS2, hS3, hS4⟩ := hSw; go_simp <;> with_reducible rfl)); (try simp only [Act.put, List.setIfInBounds_toArray, List.set_cons_zero, List.set_cons_succ]))
                                (refine Lw.take1 (i := 9) (v := ?_) rfl (by kernel_rfl) (by kernel_rfl) (by kernel_rfl) (fun _ _ _ h => h) (Or.inl ⟨by rfl, ?_⟩) (by assumption) ?_; rotate_left 1; (focus (intro wS hSw; obtain ⟨hS1, hS2, hS3, hS4⟩ := hSw; go_simp <;> with_reducible rfl)); (try simp only [Act.put, List.setIfInBounds_toArray, List.set_cons_zero, List.set_cons_succ]))
                                (refine Lw.take1 (i := 10) (v := ?_) rfl (by kernel_rfl) (by kernel_rfl) (by kernel_rfl) (fun _ _ _ h => h) (Or.inl ⟨by rfl, ?_⟩) (by assumption) ?_; rotate_left 1; (focus (intro wS hSw; obtain ⟨hS1, hS2, hS3, hS4⟩ := hSw; go_simp <;> with_reducible rfl)); (try simp only [Act.put, List.setIfInBounds_toArray, List.set_cons_zero, List.set_cons_succ]))
                                (refine Lw.take1 (i := 11) (v := ?_) rfl (by kernel_rfl) (by kernel_rfl) (by kernel_rfl) (fun _ _ _ h => h) (Or.inl ⟨by rfl, ?_⟩) (by assumption) ?_; rotate_left 1; (focus (intro wS hSw; obtain ⟨hS1, hS2, hS3, hS4⟩ := hSw; go_simp <;> with_reducible rfl)); (try simp only [Act.put, List.setIfInBounds_toArray, List.set_cons_zero, List.set_cons_succ]))
                                (refine Lw.take1 (i := 12) (v := ?_) rfl (by kernel_rfl) (by kernel_rfl) (by kernel_rfl) (fun _ _ _ h => h) (Or.inl ⟨by rfl, ?_⟩) (by assumption) ?_; rotate_left 1; (focus (intro wS hSw; obtain ⟨hS1, hS2, hS3, hS4⟩ := hSw; go_simp <;> with_reducible rfl)); (try simp only [Act.put, List.setIfInBounds_toArray, List.set_cons_zero, List.set_cons_succ]))
                                (refine Lw.take1 (i := 13) (v := ?_) rfl (by kernel_rfl) (by kernel_rfl) (by kernel_rfl) (fun _ _ _ h => h) (Or.inl ⟨by rfl, ?_⟩) (by assumption) ?_; rotate_left 1; (focus (intro wS hSw; obtain ⟨hS1, hS2, hS3, hS4⟩ := hSw; go_simp <;> with_reducible rfl)); (try simp only [Act.put, List.setIfInBounds_toArray, List.set_cons_zero, List.set_cons_succ]))
                                (refine Lw.take1 (i := 14) (v := ?_) rfl (by kernel_rfl) (by kernel_rfl) (by kernel_rfl) (fun _ _ _ h => h) (Or.inl ⟨by rfl, ?_⟩) (by assumption) ?_; rotate_left 1; (focus (intro wS hSw; obtain ⟨hS1, hS2, hS3, hS4⟩ := hSw; go_simp <;> with_reducible rfl)); (try simp only [Act.put, List.setIfInBounds_toArray, List.set_cons_zero, List.set_cons_succ]))
                                (refine Lw.take1 (i := 15) (v := ?_) rfl (by kernel_rfl) (by kernel_rfl) (by kernel_rfl) (fun _ _ _ h => h) (Or.inl ⟨by rfl, ?_⟩) (by assumption) ?_; rotate_left 1; (focus (intro wS hSw; obtain ⟨hS1, hS2, hS3, hS4⟩ := hSw; go_simp <;> with_reducible rfl)); (try simp only [Act.put, List.setIfInBounds_toArray, List.set_cons_zero, List.set_cons_succ]))
                                (refine Lw.take1 (i := 16) (v := ?_) rfl (by kernel_rfl) (by kernel_rfl) (by kernel_rfl) (fun _ _ _ h => h) (Or.inl ⟨by rfl, ?_⟩) (by assumption) ?_; rotate_left 1; (focus (intro wS hSw; obtain ⟨hS1, hS2, hS3, hS4⟩ := hSw; go_simp <;> with_reducible rfl)); (try simp only [Act.put, List.setIfInBounds_toArray, List.set_cons_zero, List.set_cons_succ]))
                                (refine Lw.take1 (i := 17) (v := ?_) rfl (by kernel_rfl) (by kernel_rfl) (by kernel_rfl) (fun _ _ _ h => h) (Or.inl ⟨by rfl, ?_⟩) (by assumption) ?_; rotate_left 1; (focus (intro wS hSw; obtain ⟨hS1, hS2, hS3, hS4⟩ := hSw; go_simp <;> with_reducible rfl)); (try simp only [Act.put, List.setIfInBounds_toArray, List.set_cons_zero, List.set_cons_succ]))
                                (refine Lw.take1 (i := 18) (v := ?_) rfl (by kernel_rfl) (by kernel_rfl) (by kernel_rfl) (fun _ _ _ h => h) (Or.inl ⟨by rfl, ?_⟩) (by assumption) ?_; rotate_left 1; (focus (intro wS hSw; obtain ⟨hS1, hS2, hS3, hS4⟩ := hSw; go_simp <;> with_reducible rfl)); (try simp only [Act.put, List.setIfInBounds_toArray, List.set_cons_zero, List.set_cons_succ]))
                                (refine Lw.take1 (i := 19) (v := ?_) rfl (by kernel_rfl) (by kernel_rfl) (by kernel_rfl) (fun _ _ _ h => h) (Or.inl ⟨by rfl, ?_⟩) (by assumption) ?_; rotate_left 1; (focus (intro wS hSw; obtain ⟨hS1, hS2, hS3, hS4⟩ := hSw; go_simp <;> with_reducible rfl)); (try simp only [Act.put, List.setIfInBounds_toArray, List.set_cons_zero, List.set_cons_succ]))
                                (refine Lw.take1 (i := 20) (v := ?_) rfl (by kernel_rfl) (by kernel_rfl) (by kernel_rfl) (fun _ _ _ h => h) (Or.inl ⟨by rfl, ?_⟩) (by assumption) ?_; rotate_left 1; (focus (intro wS hSw; obtain ⟨hS1, hS2, hS3, hS4⟩ := hSw; go_simp <;> with_reducible rfl)); (try simp only [Act.put, List.setIfInBounds_toArray, List.set_cons_zero, List.set_cons_succ]))
                                (refine Lw.take1 (i := 21) (v := ?_) rfl (by kernel_rfl) (by kernel_rfl) (by kernel_rfl) (fun _ _ _ h => h) (Or.inl ⟨by rfl, ?_⟩) (by assumption) ?_; rotate_left 1; (focus (intro wS hSw; obtain ⟨hS1, hS2, hS3, hS4⟩ := hSw; go_simp <;> with_reducible rfl)); (try simp only [Act.put, List.setIfInBounds_toArray, List.set_cons_zero, List.set_cons_succ]))
                                (refine Lw.take1 (i := 22) (v := ?_) rfl (by kernel_rfl) (by kernel_rfl) (by kernel_rfl) (fun _ _ _ h => h) (Or.inl ⟨by rfl, ?_⟩) (by assumption) ?_; rotate_left 1; (focus (intro wS hSw; obtain ⟨hS1, hS2, hS3, hS4⟩ := hSw; go_simp <;> with_reducible rfl)); (try simp only [Act.put, List.setIfInBounds_toArray, List.set_cons_zero, List.set_cons_succ]))
                                (refine Lw.take1 (i := 23) (v := ?_) rfl (by kernel_rfl) (by kernel_rfl) (by kernel_rfl) (fun _ _ _ h => h) (Or.inl ⟨by rfl, ?_⟩) (by assumption) ?_; rotate_left 1; (focus (intro wS hSw; obtain ⟨hS1, hS2, hS3, hS4⟩ := hSw; go_simp <;> with_reducible rfl)); (try simp only [Act.put, List.setIfInBounds_toArray, List.set_cons_zero, List.set_cons_succ]))
                                (refine Lw.take1 (i := 24) (v := ?_) rfl (by kernel_rfl) (by kernel_rfl) (by kernel_rfl) (fun _ _ _ h => h) (Or.inl ⟨by rfl, ?_⟩) (by assumption) ?_; rotate_left 1; (focus (intro wS hSw; obtain ⟨hS1, hS2, hS3, hS4⟩ := hSw; go_simp <;> with_reducible rfl)); (try simp only [Act.put, List.setIfInBounds_toArray, List.set_cons_zero, List.set_cons_succ]))
                                (refine wpAnyH_ready (rs := [25]) (by kernel_rfl) (by simp) ?_; refine Lw.cons1 (i := 25) rfl (fun K hK => ?_) AllReadyH.nil; go_simp; refine hK.out _ _ ?_ (fun hHeld => ?_); (focus exact Q6.out _ (Lw.balloc hZ.drew _)); clear hK K; (try simp only [Act.put, List.setIfInBounds_toArray, List.set_cons_zero, List.set_cons_succ]))
                                (refine wpAnyH_ready (rs := [26]) (by kernel_rfl) (by simp) ?_; refine Lw.cons1 (i := 26) rfl (fun K hK => ?_) AllReadyH.nil; refine Lw.step_app elBol rfl _ _ rfl rfl ((Lw.own_drew OWN.out).alloc _) rfl (by exact Lw.Rd.lit (Lw.blk_new _ _ _) rfl rfl) (Lw.oneb _) (by omega) (Lw.balloc hZ.drew _) (Nat.le_refl _) (by show wk.heap.size ≤ (wr.alloc _).heap.size; simp; omega) ?_; intro v7 w7 own7 hb7 hg7 _; refine hK.out _ _ ?_ (fun hHeld => ?_); (focus exact Q6.out _ hb7); clear hK K; (try simp only [Act.put, List.setIfInBounds_toArray, List.set_cons_zero, List.set_cons_succ]))
                                (refine Lw.take1 (i := 27) (v := ?_) rfl (by kernel_rfl) (by kernel_rfl) (by kernel_rfl) (fun _ _ _ h => h) (Or.inl ⟨by rfl, ?_⟩) (by assumption) ?_; rotate_left 1; (focus (intro wS hSw; obtain ⟨hS1, hS2, hS3, hS4⟩ := hSw; go_simp <;> with_reducible rfl)); (try simp only [Act.put, List.setIfInBounds_toArray, List.set_cons_zero, List.set_cons_succ]))
                                refine wpAnyH_done (by kernel_rfl) ?_ _
                                have O7 := Lib.hid own7
                                clear own7 hg7
                                go_wp2_with fail
                                go_roundw
                                case rel => exact ⟨i + 1, by go_num, by omega, by rw [TS2.out]; exact O7.out, hb7⟩
                                case measure => simp [intOf]; omega

                        · have hil' : ¬ (i : Int) < ((u + 1 : Nat) : Int) := by omega
                          have hil2 : ¬ (i : Int) < (u : Int) + 1 := by omega
                          have hie : i = u + 1 := by omega
                          rw [hie, List.take_of_length_le (by rw [Lw.nxtRow_len]; omega)] at own
                          obtain ⟨C2, g2, rfl, _⟩ := Lw.ownsForm own
                          have O2 := Lib.hid own
                          clear own
                          go_wp2_with (at_builtin; go_loud (refine Lw.wpList_app elRowB rfl _ _ rfl rfl ((Lw.ownsBelow HT.out.2.1 (Nat.le_refl _) hZ).alloc _) rfl (by first | exact Lw.Rd.nil _ _ _ | exact Lw.Rd.lit (Lw.blk_new' (by simp) _ _) rfl rfl | exact Lw.Rd.lit (Lw.blk_alloc (Lw.blk_new' (by simp) _ _) _) rfl rfl) (Lw.rowB_one _ _ _) (by omega) (Lw.balloc (Lw.bt hX hZ) _) (Nat.le_refl _) (by simp; omega) ?_); intro v3 w3 own3 hb3 hg3 _)
                          have FIN : Hid (BlS wc.heap.size (u + 1) v3 (Lw.nxtT M a c (k + 1)) w3) := Lib.hid (by rw [NX.out]; exact ⟨_, bl_next HT.out hZ (Lw.ownsBase O2.out (by omega)) own3 hg3⟩)
                          clear own3 hg3
                          go_wp2_with fail
                          go_roundw
                          case rel => exact ⟨k + 1, by go_num, by omega, FIN.out, hb3⟩
                          case measure => simp [intOf]; omega
                  · have hkl' : ¬ (k : Int) < (M.length : Int) := by omega
                    have hke : k = M.length := by omega
                    rw [hke] at hBl
                    obtain ⟨A2, c2, rfl, hRows⟩ := hBl.rows
                    have hRows := Lib.hid hRows
                    clear hBl
                    go_wp2_with fail
                    go_roundw
                    case rel => exact ⟨c + 1, A2, c2, by go_num, by omega, by rw [HM.out], by rw [HM.out]; exact hRows, Lw.bt hBc hX⟩
                    case measure => simp [intOf]; omega
        · have hcl' : ¬ (c : Int) < (u : Int) := by omega
          have hce : c = u := by omega
          have CBN := Lib.hid (CBu hce)
          subst hce
          clear CBu MS
          go_wp2_with fail
          go_loop [153] (fun ki => ∃ k : Nat, ki = .int .i64 (k : Int) ∧ k ≤ M.length ∧ Hid (∀ j, j < k → Lw.rg (M.getD j []) c = false)) (fun ki => M.length - (intOf ki).toNat)
          case atStart => exact ⟨0, rfl, by omega, fun j hj => absurd hj (Nat.not_lt_zero _)⟩
          case round =>
            obtain ⟨k, rfl, hk, AL⟩ := hrel
            have hkm : k < M.length ∨ ¬ k < M.length := by omega
            rcases hkm with hkl | hkl
            · have hkl' : (k : Int) < (M.length : Int) := by omega
              obtain ⟨ad, B1, c1, rfl, had, q0, qc⟩ := RB1.out.at LM.out hkl
              obtain ⟨bd, rfl, hbd, q1⟩ := qc c (by omega)
              have eu1 : IntKind.i64.wrap (((c + 1 : Nat) : Int) - 1) = (c : Int) := by rw [IntKind.wrap_i64]; omega
              have eu2 : IntKind.i64.wrap (((c : Int) + 1) - 1) = (c : Int) := by rw [IntKind.wrap_i64]; omega
              have hcu : (c : Int) < ((c + 1 : Nat) : Int) := by omega
              have hcu2 : (c : Int) < (c : Int) + 1 := by omega
              have eu3 : IntKind.i64.wrap (c : Int) = (c : Int) := by rw [IntKind.wrap_i64]; omega
              obtain ⟨bv, hbv⟩ : ∃ b, Lw.rg (M.getD k []) c = b := ⟨_, rfl⟩
              rw [hbv] at q1
              cases bv with
              | true =>
                have CF : Hid (Lw.canB l beg taps = false) := Lib.hid (by
                  rw [CBN.out, Bool.eq_false_iff]
                  intro h
                  have := List.all_eq_true.1 h _ (Lw.getD_mem hkl)
                  rw [hbv] at this
                  cases this)
                clear hbv
                go_wp2_with fail
                go_ret
                exact ⟨by rw [CF.out]; rfl, hBc⟩
              | false =>
                have AL2 : Hid (∀ j, j < k + 1 → Lw.rg (M.getD j []) c = false) := fun j hj => by
                  by_cases e : j = k
                  · rw [e]; exact hbv
                  · exact AL.out j (by omega)
                clear hbv
                go_wp2_with fail
                go_round
                case rel => exact ⟨k + 1, by go_num, by omega, AL2.out⟩
                case measure => simp [intOf]; omega
            · have hkl' : ¬ (k : Int) < (M.length : Int) := by omega
              have CT : Hid (Lw.canB l beg taps = true) := Lib.hid (by
                rw [CBN.out, List.all_eq_true]
                intro r hr
                obtain ⟨j, h1, rfl⟩ := Lw.mem_getD hr
                rw [AL.out j (by omega)]; rfl)
              go_wp2_with fail
              go_ret
              exact ⟨by rw [CT.out]; rfl, hBc⟩
end Go.Proofs.Ytafefengppiobaa

/- The columns of a table (pad.column), pad.Perfect, the reference's keysOf and Perfect. -/
import Derived.Test.YteeicpfjmahmeaaPaq
namespace Lw
open Go Go.RowKit Go.Maps
theorem colL_getD {T : List TRow} {m k : Nat} (h : k < T.length) : (colL T m).getD k 0 = T[k].zs.getD m 0 := by
  unfold colL
  rw [List.getD_eq_getElem?_getD, List.getElem?_map, List.getElem?_eq_getElem h]; rfl
theorem colL_len (T : List TRow) (m : Nat) : (colL T m).length = T.length := by simp [colL]
theorem rectOf {T : List TRow} (h : cipE T = 0) : ∃ W, 0 < W ∧ W ≤ 16 ∧ 0 < T.length ∧ T.length ≤ 16 ∧ ∀ r ∈ T, r.n = W := by
  obtain ⟨h1, h2⟩ := cip_rows h
  unfold cipE at h
  rw [if_neg (by omega)] at h
  split at h
  · cases h
  · split at h
    · cases h
    · rename_i h3 h4
      split at h
      · cases h
      · rename_i h5
        have h5 : T.any (fun r => decide (Odd (firstN T) r.n)) = false := by simpa using h5
        have hl : 0 < T.length := by
          rcases Nat.eq_zero_or_pos T.length with h | h
          · have : T = [] := List.eq_nil_of_length_eq_zero h
            subst this; exact absurd rfl h4
          · exact h
        refine ⟨firstN T, by omega, ?_, hl, h1, odd_no h5⟩
        rw [firstN_get hl]
        exact h2 _ (List.getElem_mem hl)
/-- the program's word: every column tells the numbers as often as the first does -/
def PerfP (T : List TRow) (W k : Nat) : Prop := ∀ m, m < k → ∀ z, cntZ (colL T 0) T.length z = cntZ (colL T m) T.length z
/-- the reference's -/
def RefP (T : List TRow) (W k : Nat) : Prop := ∀ i (hi : i < T.length), i < k → ∀ j, j < W → ∀ m, m < W → cntZ (colL T m) T.length (T[i].zs.getD j 0) = cntZ (colL T 0) T.length (T[i].zs.getD j 0)
theorem perf_ref {T : List TRow} {W : Nat} (hW : 0 < W) : PerfP T W W ↔ RefP T W T.length := by
  constructor
  · intro h i hi _ j hj m hm
    exact (h m hm _).symm
  · intro h m hm z
    have key : ∀ m', m' < W → 0 < cntZ (colL T m') T.length z → cntZ (colL T m) T.length z = cntZ (colL T 0) T.length z := fun m' hm' h0 => by
      obtain ⟨i, hi, e⟩ := cntZ_pos.1 h0
      rw [colL_getD hi] at e
      have := h i hi hi m' hm' m hm
      rw [e] at this
      exact this
    rcases Nat.eq_zero_or_pos (cntZ (colL T m) T.length z) with h1 | h1
    · rcases Nat.eq_zero_or_pos (cntZ (colL T 0) T.length z) with h2 | h2
      · omega
      · have := key 0 hW h2; omega
    · have := key m hm h1; omega
theorem intsV_app1 (k : IntKind) (a : List Int) (x : Int) : intsV k (a ++ [x]) = intsV k a ++ [.int k x] := by simp [intsV]
theorem perf_next {T : List TRow} {W k : Nat} : PerfP T W (k + 1) ↔ PerfP T W k ∧ ∀ z, cntZ (colL T 0) T.length z = cntZ (colL T k) T.length z := by
  constructor
  · exact fun h => ⟨fun m hm => h m (by omega), h k (by omega)⟩
  · rintro ⟨h1, h2⟩ m hm
    by_cases e : m = k
    · subst e; exact h2
    · exact h1 m (by omega)
theorem perf_mono {T : List TRow} {W k j : Nat} (h : PerfP T W k) (hj : j ≤ k) : PerfP T W j := fun m hm => h m (by omega)
theorem colL_wf {w : World} {A : Option Addr} {n : Nat} {T : List TRow} (h : Tab .i64 w A n T) (m : Nat) : ∀ z ∈ colL T m, (Lit.int .i64 z).wf = true := by
  intro z hz
  obtain ⟨r, hr, rfl⟩ := List.mem_map.1 hz
  by_cases hm : m < r.zs.length
  · rw [List.getD_eq_getElem?_getD, List.getElem?_eq_getElem hm]
    exact (h.2 r hr).2.2 _ (List.getElem_mem hm)
  · rw [List.getD_eq_getElem?_getD, List.getElem?_eq_none (by omega)]; decide
end Lw
set_option linter.unusedVariables false
set_option linter.unusedSimpArgs false
namespace Go.Proofs.Yteeicpfjmahmeaa
open Go.RowKit
open Go.Maps
set_option maxHeartbeats 1000000 in
theorem pad_column (A : Option Addr) (n c m W : Nat) (T : List Lw.TRow) (w : World) (h : Lw.Tab .i64 w A n T) (hW : ∀ r ∈ T, r.n = W) (hm : m < W) (hn : n ≤ 16) (hw16 : W ≤ 16) :
    Calls Try.prog 51 #[.slice A n c, .int .i64 (m : Int)] w (Lw.OwnRes 3 1 (Lw.intsV .i64 (Lw.colL T m)) n w) := by
  have HL := Lib.hid h.len
  have HT := Lib.hid h
  have HW := Lib.hid hW
  have CT := Lib.hid (fun k hk => Lw.colL_take (T := T) (m := m) (k := k) hk)
  clear h hW
  generalize hL : Lw.colL T m = L at CT ⊢
  have LL : Hid (L.length = n) := Lib.hid (by rw [← hL, Lw.colL_len]; exact HL.out)
  clear hL
  go_enter Try.func51, Try.ntmps51
  go_wp2
  go_loopw [5, 7, 10] (fun l r i wr => ∃ k : Nat, i = .int .i64 (k : Int) ∧ k ≤ n ∧ wr.ownsRow w.heap.size 3 1 l k (Lw.intsV .i64 (L.take k)) ∧ Below w.heap.size w wr) (fun _ _ i _ => n - (intOf i).toNat)
  case atStart => exact ⟨0, rfl, by omega, World.ownsRow_nil _ _ _ _, Below.refl _ _⟩
  case round =>
    obtain ⟨k, rfl, k1, own, hB⟩ := hrel
    have OWN := Lib.hid own
    clear own
    have hsz := hB.size
    by_cases hlt : k < n
    · have hlt' : (k : Int) < (n : Int) := by omega
      obtain ⟨hkl, ad, rfl, had, hcell, RO⟩ := (HT.out.below (Nat.le_refl _) hB).at_ hlt
      have CK := CT.out k hkl
      have rW := HW.out _ (List.getElem_mem hkl)
      obtain ⟨⟨rA, rn, rc, zs⟩, hr⟩ : ∃ z, T[k] = z := ⟨_, rfl⟩
      rw [hr] at hcell CK RO rW
      simp only at hcell CK rW
      subst rW
      have lz : zs.length = rn := by have := RO.len; simpa using this
      obtain ⟨ae, e1, hae, ecell⟩ := RO.1.at1 hm (Lw.intsV_get (by omega : m < zs.length))
      have gm : zs.getD m 0 = zs[m] := by rw [List.getD_eq_getElem?_getD, List.getElem?_eq_getElem (by omega)]; rfl
      obtain ⟨x, hx⟩ : ∃ x, zs[m]'(by omega) = x := ⟨_, rfl⟩
      rw [hx] at ecell gm
      rw [gm] at CK
      simp only at e1
      subst e1
      have CK := Lib.hid CK
      have hm' : (m : Int) < (rn : Int) := by omega
      clear hx gm hr RO hkl had hae lz
      go_wp2_with (at_builtin; refine Lw.wpList_app elInt rfl _ _ rfl rfl (OWN.out.alloc _) rfl (by first | exact Lw.Rd.nil _ _ _ | exact Lw.Rd.lit (Lw.blk_new' (by simp) _ _) rfl rfl | exact Lw.Rd.lit (Lw.blk_alloc (Lw.blk_new' (by simp) _ _) _) rfl rfl) (Lw.one1 _ _) (by omega) (Lw.balloc hB _) (Nat.le_refl _) (by simp; omega) ?_; intro v2 w2 own2 hb2 _ _)
      have O2 := Lib.hid own2
      clear own2
      go_roundw
      case rel => exact ⟨k + 1, by go_num, by omega, by rw [CK.out, Lw.intsV_app1]; exact O2.out, hb2⟩
      case measure => simp [intOf]; omega
    · have hkn : k = n := by omega
      subst hkn
      have HK : Hid (L.take k = L) := Lib.hid (List.take_of_length_le (by rw [LL.out]; exact Nat.le_refl _))
      go_wp2
      go_ret
      have O := OWN.out
      rw [HK.out] at O
      obtain ⟨A1, c1, rfl, _⟩ := Lw.ownsForm O
      exact ⟨A1, c1, rfl, O, hB⟩
theorem pad_Perfect_bad (A : Option Addr) (n c : Nat) (T : List Lw.TRow) (w : World) (h : Lw.Tab .i64 w A n T) (h0 : ¬ Lw.cipE T = 0) :
    Calls Try.prog 29 #[.slice A n c] w fun e w' => e = .returned (.tuple #[.bool false, .int .i64 (Lw.cipE T)]) ∧ Below w.heap.size w w' := by
  have X := Lib.hid (pad_Check A n c T w h)
  have z : (Lw.cipE T != 0) = true := by simpa using h0
  have z' : (Lw.cipE T == 0) = false := by simpa using h0
  generalize Lw.cipE T = E at *
  clear h h0
  go_enter Try.func29, Try.ntmps29
  go_wp2_with (go_at_call 18; (with_reducible refine (X.out).mono ?_); rintro e w1 ⟨rfl, hb1⟩)
  go_ret2
  exact ⟨rfl, hb1⟩
theorem owns_equal {w1 w2 : World} {b1 b2 m1 m2 n1 n2 : Nat} {D1 D2 : DataW Unit} {zs1 zs2 : List Int} (h1 : w1.ownsMap Try.prog 3 (plainElem (H := Unit) Try.prog 3) b1 m1 D1) (h2 : w2.ownsMap Try.prog 3 (plainElem (H := Unit) Try.prog 3) b2 m2 D2) (c1 : Lw.CntV zs1 n1 D1) (c2 : Lw.CntV zs2 n2 D2) :
    Lib.equalFuncD Lw.eqI D1 D2 = true ↔ ∀ z, Lw.cntZ zs1 n1 z = Lw.cntZ zs2 n2 z := by
  obtain ⟨es1, rfl, a1, k1⟩ := h1.entries lawPap
  obtain ⟨es2, rfl, a2, k2⟩ := h2.entries lawPap
  exact Lw.equal_iff a1 k1 a2 k2 c1 c2
set_option maxHeartbeats 2000000 in
theorem pad_Perfect (A : Option Addr) (n c W : Nat) (T : List Lw.TRow) (w : World) (h : Lw.Tab .i64 w A n T) (h0 : Lw.cipE T = 0) (hW0 : 0 < W) (hW16 : W ≤ 16) (hT0 : 0 < T.length) (hT16 : T.length ≤ 16) (hW : ∀ r ∈ T, r.n = W) :
    Calls Try.prog 29 #[.slice A n c] w (Lw.PlR (Lw.PerfP T W W) w) := by
  have X := pad_Check A n c T w h
  rw [h0] at X
  replace X := Lib.hid X
  have hl := h.len
  rw [hl] at hT0 hT16
  have CO := Lib.hid (fun m (hm : m < W) W' hb => pad_column A n c m W T W' (h.below (Nat.le_refl w.heap.size) hb) hW hm hT16 hW16)
  have WF := Lib.hid (fun m => Lw.colL_wf h m)
  have PN := Lib.hid (fun k => Lw.perf_next (T := T) (W := W) (k := k))
  have P0 : Hid (Lw.PerfP T W 0) := Lib.hid (fun m hm => by omega)
  have PM := Lib.hid (fun k (hk : k ≤ W) (hp : Lw.PerfP T W W) => Lw.perf_mono hp hk)
  obtain ⟨hkl, ad, rfl, had, hcell, RO⟩ := h.at_ hT0
  have rW := hW _ (List.getElem_mem hkl)
  obtain ⟨⟨rA, rn, rc, zs⟩, hr⟩ : ∃ z, T[0] = z := ⟨_, rfl⟩
  rw [hr] at hcell rW
  simp only at hcell rW
  subst rW
  rw [hl] at PN
  clear RO
  clear h h0 hl hr hW hkl
  go_enter Try.func29, Try.ntmps29
  go_wp2_with fail
  refine X.out.mono ?_
  rintro e w1 ⟨rfl, hb1⟩
  go_wp2_with fail
  refine (CO.out 0 hW0 _ hb1).mono ?_
  rintro e w2 ⟨A2, c2, rfl, own2, hb2⟩
  have hB2 := Lw.bt hb1 hb2
  have R2 := Lib.hid (Lw.Rd.of_own own2)
  clear own2
  go_wp2_with fail
  refine (pad_countedV _ _ _ _ _ R2.out (WF.out 0) (by omega)).mono ?_
  rintro e w3 ⟨rfl, ⟨D0, own3, CV0⟩, hb3⟩
  have hB3 := Lw.bt hB2 hb3
  have hs3 := own3.lt
  have OM3 := Lib.hid own3
  have CV := Lib.hid CV0
  clear own3 CV0
  obtain ⟨b0, hb0⟩ : ∃ b, w2.heap.size = b := ⟨_, rfl⟩
  rw [hb0] at OM3 hs3 hb3 ⊢
  have hc3 : w3.cell? ad = some (.slice rA rn rc) := (hB3.cell (p := ad.add 0) had).trans hcell
  clear hb2 R2
  go_wp2_with fail
  go_loopw [6, 19] (fun m i wr => ∃ k : Nat, i = .int .i64 (k : Int) ∧ k ≤ rn ∧ Hid (Lw.PerfP T rn k) ∧ wr.ownsMap Try.prog 3 (plainElem (H := Unit) Try.prog 3) b0 n D0 ∧ b0 < wr.heap.size ∧ Below w.heap.size w wr) (fun _ i _ => rn - (intOf i).toNat)
  case atStart => exact ⟨0, rfl, by omega, P0, OM3.out, hs3, hB3⟩
  case round =>
    obtain ⟨k, rfl, hk, H, OM, hbr, hB⟩ := hrel
    have OM := Lib.hid OM
    by_cases hlt : k < rn
    · have hlt' : (k : Int) < (rn : Int) := by omega
      have COk := Lib.hid (CO.out k hlt _ hB)
      go_wp2_with fail
      refine COk.out.mono ?_
      rintro e w4 ⟨A4, c4, rfl, own4, hb4⟩
      have R4 := Lib.hid (Lw.Rd.of_own own4)
      clear own4 COk
      go_wp2_with fail
      refine (pad_countedV _ _ _ _ _ R4.out (WF.out k) (by omega)).mono ?_
      rintro e w5 ⟨rfl, ⟨D5, own5, CV5⟩, hb5⟩
      have EQ := Lib.hid (owns_equal OM.out own5 CV.out CV5)
      have hB5 := Lw.bt (Lw.bt hB hb4) hb5
      have hB45 := Lw.bt hb4 hb5
      have OM5 := Lib.hid (Lw.owns_bel OM.out hbr hB45)
      have MEq := Lib.hid (maps_Equal _ _ _ _ _ _ w5 OM5.out own5)
      have hs5 := hB45.size
      clear own5 CV5 R4 hb4 hb5 hB45
      go_wp2_with fail
      refine MEq.out.mono ?_
      rintro e w6 ⟨rfl, hg6⟩
      have hB6 := hB5.grown hg6 hB5.size (fun j hj => by cases hj)
      have OM6 := Lib.hid (OM5.out.kept hg6 (by simp))
      have hs6 := OM6.out.lt
      obtain ⟨r, hr⟩ : ∃ r, Lib.equalFuncD Lw.eqI D0 D5 = r := ⟨_, rfl⟩
      rw [hr] at EQ ⊢
      clear MEq hg6 hr
      cases r
      · have NP : Hid (¬ Lw.PerfP T rn rn) := Lib.hid fun hp => by
          have h1 := ((PN.out k).1 (PM.out (k + 1) (by omega) hp)).2
          have := EQ.out.2 h1
          cases this
        go_wp2
        go_ret2
        exact ⟨⟨false, rfl, by simpa using NP.out⟩, hB6⟩
      · have P2 := Lib.hid ((PN.out k).2 ⟨H.out, EQ.out.1 rfl⟩)
        go_wp2
        go_roundw
        case rel => exact ⟨k + 1, by go_num, by omega, P2, OM6.out, hs6, hB6⟩
        case measure => simp [intOf]; omega
    · have hkn : k = rn := by omega
      subst hkn
      go_wp2_with fail
      go_ret2
      exact ⟨⟨true, rfl, by simpa using H.out⟩, hB⟩
set_option maxHeartbeats 1000000 in
theorem ref_keysOf (A : Option Addr) (n c m W : Nat) (z : Int) (T : List Lw.TRow) (w : World) (h : Lw.Tab .i64 w A n T) (hW : ∀ r ∈ T, r.n = W) (hm : m < W) (hn : n ≤ 16) (hw16 : W ≤ 16) :
    Calls Try.prog 53 #[.slice A n c, .int .i64 (m : Int), .int .i64 z] w fun e w' => e = .returned (.int .i64 (Lw.cntZ (Lw.colL T m) T.length z : Nat)) ∧ w = w' := by
  have HL := Lib.hid h.len
  have HT := Lib.hid h
  have HW := Lib.hid hW
  have CT := Lib.hid (fun k hk => Lw.colL_getD (T := T) (m := m) (k := k) hk)
  rw [h.len]
  clear h hW
  generalize hL : Lw.colL T m = L at CT ⊢
  clear hL
  go_enter Try.func53, Try.ntmps53
  go_wp2
  go_loop [7, 9, 12] (fun s r i => ∃ k : Nat, i = .int .i64 (k : Int) ∧ k ≤ n ∧ s = .int .i64 (Lw.cntZ L k z : Nat)) (fun _ _ i => n - (intOf i).toNat)
  case atStart => exact ⟨0, rfl, by omega, rfl⟩
  case round =>
    obtain ⟨k, rfl, k1, rfl⟩ := hrel
    by_cases hlt : k < n
    · have hlt' : (k : Int) < (n : Int) := by omega
      obtain ⟨hkl, ad, rfl, had, hcell, RO⟩ := HT.out.at_ hlt
      have CK := CT.out k hkl
      have rW := HW.out _ (List.getElem_mem hkl)
      obtain ⟨⟨rA, rn, rc, zs⟩, hr⟩ : ∃ z, T[k] = z := ⟨_, rfl⟩
      rw [hr] at hcell CK RO rW
      simp only at hcell CK rW
      subst rW
      have lz : zs.length = rn := by have := RO.len; simpa using this
      obtain ⟨ae, e1, hae, ecell⟩ := RO.1.at1 hm (Lw.intsV_get (by omega : m < zs.length))
      have gm : zs.getD m 0 = zs[m] := by rw [List.getD_eq_getElem?_getD, List.getElem?_eq_getElem (by omega)]; rfl
      obtain ⟨x, hx⟩ : ∃ x, zs[m]'(by omega) = x := ⟨_, rfl⟩
      rw [hx] at ecell gm
      rw [gm] at CK
      simp only at e1
      subst e1
      have hle := Lw.cntZ_le L k z
      have CK := Lib.hid CK
      have hm' : (m : Int) < (rn : Int) := by omega
      have NX : Hid (Lw.cntZ L (k + 1) z = Lw.cntZ L k z + (if x = z then 1 else 0)) := Lib.hid (by rw [← CK.out]; rfl)
      clear hx gm hr RO hkl had hae lz CK
      by_cases e : x = z
      · have zb : (x == z) = true := by simpa using e
        rw [if_pos e] at NX
        go_wp2
        go_round
        case rel => exact ⟨k + 1, by go_num, by omega, by rw [NX.out]; go_num⟩
        case measure => simp [intOf]; omega
      · have zb : (x == z) = false := by simpa using e
        rw [if_neg e] at NX
        go_wp2
        go_round
        case rel => exact ⟨k + 1, by go_num, by omega, by rw [NX.out]; rfl⟩
        case measure => simp [intOf]; omega
    · have hkn : k = n := by omega
      subst hkn
      go_wp2
      go_ret
      exact ⟨rfl, rfl⟩
end Go.Proofs.Yteeicpfjmahmeaa

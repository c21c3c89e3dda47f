/- What is wrong with points: poly.wrong (a map of counts), the reference's PointsCheck. -/
import Derived.Test.YtlgegdmnbhoepaaPlu
import Derived.Test.YtlgegdmnbhoepaaCnm
namespace Lw
open Go Go.RowKit Go.Maps
def outP (p : Int) (r : PtT) : Bool := decide (r.1 < 0) || decide (p ≤ r.1) || decide (r.2 < 0) || decide (p ≤ r.2)
open Classical in
noncomputable def ptsE (p : Int) (L : List PtT) : Int := if ¬ pprE p = 0 then pprE p else if 13 < L.length then 1 else if L.any (outP p) = true then 2 else if DupP (L.map Prod.fst) L.length then 4 else 0
theorem pts_p {p : Int} {L : List PtT} (h : ¬ pprE p = 0) : ptsE p L = pprE p := if_pos h
theorem pts_len {p : Int} {L : List PtT} (h : pprE p = 0) (h1 : 13 < L.length) : ptsE p L = 1 := by unfold ptsE; rw [if_neg (by simp [h]), if_pos h1]
theorem pts_out {p : Int} {L : List PtT} (h : pprE p = 0) (h1 : ¬ 13 < L.length) {k : Nat} (hk : k < L.length) (ho : outP p L[k] = true) : ptsE p L = 2 := by
  unfold ptsE; rw [if_neg (by simp [h]), if_neg h1, if_pos (List.any_eq_true.2 ⟨_, List.getElem_mem hk, ho⟩)]
theorem noOut {p : Int} {L : List PtT} (h : ∀ k (hk : k < L.length), outP p L[k] = false) : ¬ L.any (outP p) = true := by
  intro ha
  obtain ⟨r, hr, h1⟩ := List.any_eq_true.1 ha
  obtain ⟨i, hi, rfl⟩ := List.getElem_of_mem hr
  rw [h i hi] at h1; cases h1
theorem pts_dup {p : Int} {L : List PtT} (h : pprE p = 0) (h1 : ¬ 13 < L.length) (h2 : ∀ k (hk : k < L.length), outP p L[k] = false) (h3 : DupP (L.map Prod.fst) L.length) : ptsE p L = 4 := by
  unfold ptsE; rw [if_neg (by simp [h]), if_neg h1, if_neg (noOut h2), if_pos h3]
theorem pts_zero {p : Int} {L : List PtT} (h : pprE p = 0) (h1 : ¬ 13 < L.length) (h2 : ∀ k (hk : k < L.length), outP p L[k] = false) (h3 : ¬ DupP (L.map Prod.fst) L.length) : ptsE p L = 0 := by
  unfold ptsE; rw [if_neg (by simp [h]), if_neg h1, if_neg (noOut h2), if_neg h3]
theorem outP_no {p x y : Int} (h : outP p (x, y) = false) : 0 ≤ x ∧ x < p ∧ 0 ≤ y ∧ y < p := by
  unfold outP at h; simp at h; omega
theorem outP_yes {p x y : Int} (h : outP p (x, y) = true) : x < 0 ∨ p ≤ x ∨ y < 0 ∨ p ≤ y := by
  unfold outP at h; simp at h; omega
theorem fst_getD {L : List PtT} {k : Nat} : (L.map Prod.fst).getD k 0 = (ptG L k).1 := by
  unfold ptG
  rw [List.getD_eq_getElem?_getD, List.getD_eq_getElem?_getD, List.getElem?_map]
  cases L[k]? <;> rfl
theorem pts_ok {p : Int} {L : List PtT} (h : ptsE p L = 0) : pprE p = 0 ∧ L.length ≤ 13 ∧ PtsOk p L := by
  by_cases h0 : pprE p = 0
  · by_cases h1 : 13 < L.length
    · rw [pts_len h0 h1] at h; cases h
    · by_cases h2 : ∀ k (hk : k < L.length), outP p L[k] = false
      · by_cases h3 : DupP (L.map Prod.fst) L.length
        · rw [pts_dup h0 h1 h2 h3] at h; cases h
        · refine ⟨h0, by omega, fun r hr => ?_, fun i j hij hj e => h3 ⟨j, i, hij, hj, by rw [fst_getD, fst_getD]; exact e.symm⟩⟩
          obtain ⟨i, hi, rfl⟩ := List.getElem_of_mem hr
          have := outP_no (h2 i hi)
          exact ⟨⟨this.1, this.2.1⟩, this.2.2⟩
      · obtain ⟨k, hk⟩ := Classical.not_forall.1 h2
        obtain ⟨hk, ho⟩ := Classical.not_forall.1 hk
        rw [pts_out h0 h1 hk (by simpa using ho)] at h; cases h
  · rw [pts_p h0] at h; exact absurd h h0
/-- none of the first k is out of bounds -/
def InK (p : Int) (L : List PtT) (k : Nat) : Prop := ∀ i (hi : i < L.length), i < k → outP p L[i] = false
theorem inK_next {p : Int} {L : List PtT} {k : Nat} (hk : k < L.length) (h : InK p L k) (h1 : outP p L[k] = false) : InK p L (k + 1) := fun i hi hik => by
  by_cases e : i = k
  · subst e; exact h1
  · exact h i hi (by omega)
theorem pairsV_len {k l : IntKind} {L : List PtT} {w : World} {A : Option Addr} {n : Nat} (R : Rd w 2 A n (pairsV k l L)) : L.length = n := by have := R.1; rw [pairsV_length] at this; omega
end Lw
set_option linter.unusedVariables false
set_option linter.unusedSimpArgs false
namespace Go.Proofs.Ytlgegdmnbhoepaa
open Go.RowKit
open Go.Maps
theorem lawPlw : Keyed Try.prog 2 := int_keyed Try.underlying2
theorem zeroPlw (w : World) : (zeroValue 3).run Try.prog w = .ok (.int .i64 0) w := by kernel_rfl
set_option maxRecDepth 100000 in
set_option maxHeartbeats 4000000 in
theorem poly_wrong (p : Int) (A : Option Addr) (n c : Nat) (L : List Lw.PtT) (w : World) (R : Lw.Rd w 2 A n (Lw.pairsV .i64 .i64 L)) (hw : ∀ r ∈ L, (Lit.int .i64 r.1).wf = true) :
    Calls Try.prog 167 #[.int .i64 p, .slice A n c] w fun e w' => e = .returned (.int .i64 (Lw.ptsE p L)) ∧ Below w.heap.size w w' := by
  have lL := Lw.pairsV_len R
  have X := poly_prime p w
  by_cases h0 : Lw.pprE p = 0
  · rw [h0] at X
    replace X := Lib.hid X
    by_cases h1 : 13 < n
    · have E := Lib.hid (Lw.pts_len (L := L) h0 (by omega))
      have i1 : (13 : Int) < (n : Int) := by omega
      generalize Lw.ptsE p L = f at *
      clear R hw h0
      go_enter Try.func167, Try.ntmps167
      go_wp2_with fail
      refine X.out.mono ?_
      rintro e w1 ⟨rfl, hb1⟩
      go_wp2_with fail
      go_ret
      exact ⟨by rw [E.out]; rfl, hb1⟩
    · have i1 : ¬ (13 : Int) < (n : Int) := by omega
      have E2 := Lib.hid (fun k hk ho => Lw.pts_out (p := p) (L := L) (k := k) h0 (by omega) hk ho)
      have E4 := Lib.hid (fun a b => Lw.pts_dup (p := p) (L := L) h0 (by omega) a b)
      have E0 := Lib.hid (fun a b => Lw.pts_zero (p := p) (L := L) h0 (by omega) a b)
      generalize Lw.ptsE p L = f at *
      have R := Lib.hid R
      have HW := Lib.hid hw
      have LL := Lib.hid lL
      clear hw lL h0
      have hmm := @run_makeMap Try.prog
      go_enter Try.func167, Try.ntmps167
      go_wp2_with fail
      refine X.out.mono ?_
      rintro e w1 ⟨rfl, hb1⟩
      have hs1 := hb1.size
      go_wp2_with fail
      obtain ⟨b0, hb0⟩ : ∃ b, w1.heap.size = b := ⟨_, rfl⟩
      rw [hb0]
      go_loopw [8, 20] (fun x i wr => ∃ (k : Nat) (D : DataW Unit), k ≤ n ∧ i = .int .i64 (k : Int) ∧ Hid (Lw.CntR (L.map Prod.fst) k D) ∧ Hid (Lw.InK p L k) ∧ Hid (wr.ownsMap Try.prog 2 (plainElem (H := Unit) Try.prog 3) b0 k D) ∧ Below w.heap.size w wr) (fun _ i _ => n - (intOf i).toNat)
      case atStart => exact ⟨0, .map [], Nat.zero_le _, rfl, Lw.cnt_zero _, fun i hi h => by omega, by rw [← hb0]; exact World.ownsMap_made _ _ _ _, Lw.balloc hb1 _⟩
      case round =>
        obtain ⟨k, D, hk, rfl, CR, IK, hown, hB⟩ := hrel
        by_cases hlt : k < n
        · have hl : k < L.length := by rw [LL.out]; exact hlt
          obtain ⟨g0, g1⟩ := Lw.pairsV_get (k := .i64) (l := .i64) hl
          obtain ⟨ad, rfl, had, c0, c1⟩ := (R.out.below (Nat.le_refl _) hB).at2 hlt g0 g1
          have wf := HW.out _ (List.getElem_mem hl)
          have hz : (L.map Prod.fst).getD k 0 = L[k].1 := by rw [Lw.fst_getD, Lw.ptG_at hl]
          have IN := fun h => Lw.inK_next hl IK.out h
          have O2 := fun h => E2.out k hl h
          obtain ⟨⟨x, y⟩, hx⟩ : ∃ z, L[k] = z := ⟨_, rfl⟩
          rw [hx] at c0 c1 wf hz IN O2
          simp only at c0 c1 wf hz
          have hlt' : (k : Int) < (n : Int) := by omega
          have hbk : b0 < wr.heap.size := hown.out.lt
          have hown2 := Lib.hid (hown.out.alloc (.cells #[.int .i64 x, .int .i64 y] 66))
          have hB2 := Lw.balloc hB (.cells #[.int .i64 x, .int .i64 y] 66)
          cases ho : Lw.outP p (x, y) with
          | true =>
            have O2 := Lib.hid (O2 ho)
            have hbad := Lw.outP_yes ho
            clear IN hx g0 g1 hl had hz CR IK hown hown2 ho E4 E0
            have key : (x < y ∧ x < 0) ∨ (x < y ∧ ¬ x < 0 ∧ p ≤ y) ∨ (¬ x < y ∧ y < 0) ∨ (¬ x < y ∧ ¬ y < 0 ∧ p ≤ x) := by omega
            clear hbad
            rcases key with ⟨k1, k2⟩ | ⟨k1, k2, k3⟩ | ⟨k1, k2⟩ | ⟨k1, k2, k3⟩
            all_goals ((go_wp2_with fail) <;> (go_ret; exact ⟨by rw [O2.out]; rfl, hB2⟩))
          | false =>
            have IN := Lib.hid (IN ho)
            obtain ⟨x0, x1, y0, y1⟩ := Lw.outP_no ho
            have hkey : keyOf Try.prog 2 (.int .i64 x) = some (.int .i64 x) := keyOf_int_mk Try.underlying2 wf
            have NX := Lib.hid (fun (hk : WideAt.IsKeyLit (.int .i64 x)) (d : DataW Unit) => Lw.cnt_next (hown.out.tidy lawPlw) hown.out.isMap CR.out hz hk d)
            clear O2 hx g0 g1 hl had hz CR IK hown ho E4 E0
            have x2 : ¬ x < 0 := by omega
            have y2 : ¬ y < 0 := by omega
            have x3 : ¬ p ≤ x := by omega
            have y3 : ¬ p ≤ y := by omega
            clear x0 x1 y0 y1
            have hown := hown2.out
            clear hown2
            by_cases hxy : x < y
            all_goals (
              (go_wp2_with (first
                | (at_lookup; refine wpList_lookup_own_int _ rfl _ _ 236 rfl 2 3 .i64 lawPlw Try.underlying236 Try.underlying3 (zeroPlw _) b0 k _ rfl hown _ _ rfl hkey ?_; intro c hat hwc)
                | (at_mapUpdate; refine wpList_mapUpdate_own _ rfl _ _ _ 236 rfl 2 3 lawPlw Try.underlying236 _ b0 k _ rfl hown (by unfold maxLen; omega) _ _ _ rfl rfl hkey _ [] (plainElem_int Try.underlying3 (wrap64_wf _)) ?_; intro w2 hown1 hgrow1)
                | go_in)) <;>
              exact ⟨⟨k + 1, _, by omega, by go_num, NX.out (by first | exact WideAt.IsKeyLit.int | trivial | simp [WideAt.IsKeyLit] | constructor) _, IN, hown1, hB2.grown hgrow1 hB2.size (fun j hj => by cases hj; exact hb0 ▸ hs1)⟩, by simp [intOf]; omega⟩)
        · have hkn : k = n := by omega
          subst hkn
          obtain ⟨ce, cl⟩ := Lw.cnt_end CR.out
          have IA : Hid (∀ k (hk : k < L.length), Lw.outP p L[k] = false) := Lib.hid fun i hi => IK.out i hi (by rw [LL.out] at hi; exact hi)
          by_cases hd : Maps.size D < k
          · have E := Lib.hid (E4.out IA.out (by rw [LL.out]; exact ce.1 hd))
            have hd' : ((Maps.size D : Nat) : Int) < (k : Int) := by omega
            have hown := hown.out
            clear ce CR IK E2 E4 E0
            go_wp2_with (at_len; refine wpList_len_own _ rfl _ 236 rfl 2 3 Try.underlying236 _ b0 k D rfl hown ?_)
            go_ret
            exact ⟨by rw [E.out]; rfl, hB⟩
          · have E := Lib.hid (E0.out IA.out (by rw [LL.out]; exact fun h => hd (ce.2 h)))
            have hd' : ¬ ((Maps.size D : Nat) : Int) < (k : Int) := by omega
            have hown := hown.out
            clear ce CR IK E2 E4 E0
            go_wp2_with (at_len; refine wpList_len_own _ rfl _ 236 rfl 2 3 Try.underlying236 _ b0 k D rfl hown ?_)
            go_ret
            exact ⟨by rw [E.out]; rfl, hB⟩
  · have E := Lib.hid (Lw.pts_p (L := L) h0)
    have z : (Lw.pprE p != 0) = true := by simpa using h0
    have z' : (Lw.pprE p == 0) = false := by simpa using h0
    generalize Lw.ptsE p L = f at *
    generalize Lw.pprE p = g at *
    clear R hw h0
    replace X := Lib.hid X
    go_enter Try.func167, Try.ntmps167
    go_wp2_with fail
    refine X.out.mono ?_
    rintro e w1 ⟨rfl, hb1⟩
    go_wp2_with fail
    go_ret
    exact ⟨by rw [E.out]; rfl, hb1⟩
end Go.Proofs.Ytlgegdmnbhoepaa

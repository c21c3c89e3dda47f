/-
  shift.Short and the reference's Short.
  The law ShiftShort: the shortest rule, and of several the one whose first differing tap is not set.
-/
import Derived.Test.YtafefengppiobaaKShiftShort2
import Derived.Test.YtafefengppiobaaKShiftShort3
namespace Lw
open Go Go.RowKit
theorem bsV_one (bs : List Bool) : ∀ u ∈ bsV bs, u.oneCell' = true := by intro u hu; obtain ⟨b, _, rfl⟩ := List.mem_map.1 hu; rfl
end Lw
set_option linter.unusedVariables false
set_option linter.unusedSimpArgs false
namespace Go.Proofs.Ytafefengppiobaa
open Go.RowKit
/-- the taps of a least rule -/
def ShR (l : List Bool) (L : Nat) (rows : Lw.RowsM) : Prop := Lw.LsS l L l.length rows ∧ (∃ t, Lw.RuL l t L l.length) ∧ ∀ L', L' < L → ∀ t', ¬ Lw.RuL l t' L' l.length
def tapL (rows : Lw.RowsM) (L : Nat) : List Bool := (List.range L).map (Lw.tapF rows L)
theorem tapL_len (rows : Lw.RowsM) (L : Nat) : (tapL rows L).length = L := by simp [tapL]
theorem shift_Short_ok (A : Option Addr) (N c : Nat) (l : List Bool) (w : World) (R : Lw.Rd w 1 A N (Lw.bsV l)) (hN : N ≤ 64) :
    Calls Try.prog 5 #[.slice A N c] w fun e w' => ∃ L rows C g, e = .returned (.tuple #[.slice C L g, .int .i64 0]) ∧ L ≤ N ∧ ShR l L rows ∧ Lw.Rd w' 1 C L (Lw.bsV (tapL rows L)) ∧ Below w.heap.size w w' := by
  have lb : l.length = N := by have := R.1; rw [Lw.bsV_length] at this; omega
  have MA := Lib.hid (shift_massey A N c l w R hN)
  have LS := Lib.hid (fun L W (hb : Below w.heap.size w W) h1 h2 => shift_least A N L c l W (R.below (Nat.le_refl _) hb) hN h1 h2)
  have i1 : ¬ (64 : Int) < (N : Int) := by omega
  clear R
  go_enter Try.func5, Try.ntmps5
  go_wp2_with fail
  refine MA.out.mono ?_
  rintro e w1 ⟨x, L, rfl, hr, hm, hL, hb1⟩
  have HR := Lib.hid hr
  have HM := Lib.hid hm
  have LX := Lib.hid (LS.out L w1 hb1 hL hr)
  clear hr hm
  go_wp2_with fail
  refine LX.out.mono ?_
  rintro e w2 ⟨rows, hls, C, g, rfl, R2, hb2⟩
  have HL := Lib.hid hls
  have R2 := Lib.hid R2
  clear hls
  go_wp2_with fail
  go_ret2
  exact ⟨L, rows, C, g, rfl, hL, ⟨by rw [lb]; exact HL.out, by rw [lb]; exact HR.out, by rw [lb]; exact HM.out⟩, R2.out, Lw.bt hb1 hb2⟩
theorem shift_Short_large (A : Option Addr) (N c : Nat) (w : World) (hN : 64 < N) : Calls Try.prog 5 #[.slice A N c] w fun e w' => e = .returned (.tuple #[.slice none 0 0, .int .i64 1]) ∧ w = w' := by
  have i1 : (64 : Int) < (N : Int) := by omega
  go_enter Try.func5, Try.ntmps5
  go_wp2
  go_ret2
  exact ⟨rfl, rfl⟩
set_option maxRecDepth 100000 in
set_option maxHeartbeats 4000000 in
theorem ref_Short (A : Option Addr) (N c L : Nat) (l : List Bool) (rows : Lw.RowsM) (w : World) (R : Lw.Rd w 1 A N (Lw.bsV l)) (hN : N ≤ 64) (hL : L ≤ N) (h : ShR l L rows) :
    Calls Try.prog 7 #[.slice A N c] w (Lw.BolF L (tapL rows L) w) := by
  have lb : l.length = N := by have := R.1; rw [Lw.bsV_length] at this; omega
  obtain ⟨h1, h2, h3⟩ := h
  have CN := Lib.hid (fun (B : Option Addr) nb d k beg W (hb : Below w.heap.size w W) (RB : Lw.Rd W 1 B nb (Lw.bsV beg)) h4 h5 => ref_can A B N nb c d k l beg W (R.below (Nat.le_refl _) hb) RB hN h4 h5)
  have C0 := Lib.hid (fun k (hk : k ≤ L) => show Lw.canB l [] k = decide (k = L) from by
    rw [Bool.eq_iff_iff, Lw.canB_iff (by simp) (by omega), decide_eq_true_eq]
    constructor
    · rintro ⟨y, hy, _⟩
      apply Classical.byContradiction
      intro hc
      exact h3 k (by omega) y hy
    · rintro rfl
      obtain ⟨t, ht⟩ := h2
      exact ⟨t, ht, fun i hi => by cases hi⟩)
  have TG := Lib.hid (fun i (hi : i < L) => show ((tapL rows L).take (i + 1)) = (tapL rows L).take i ++ [Lw.tapF rows L i] from by
    rw [List.take_succ_eq_append_getElem (by rw [tapL_len]; exact hi)]
    simp [tapL])
  have C1 := Lib.hid (fun i (hi : i < L) => show Lw.canB l ((tapL rows L).take i ++ [false]) L = !(Lw.tapF rows L i) from by
    have hl : ((tapL rows L).take i).length = i := by rw [List.length_take, tapL_len]; omega
    have k1 := Lw.can_least h1 (by omega) hi ((tapL rows L).take i) hl (fun j hj => by simp [tapL])
    rw [Bool.eq_iff_iff, Lw.canB_iff (by rw [List.length_append, hl, List.length_singleton]; omega) (by omega), k1]
    simp)
  have T0 : Hid ((tapL rows L).take 0 = []) := List.take_zero
  have TL := tapL_len rows L
  generalize tapL rows L = TT at *
  have R := Lib.hid R
  clear h1 h2 h3 lb
  go_enter Try.func7, Try.ntmps7
  go_wp2_with fail
  go_loopw [3] (fun v wr => ∃ k : Nat, v = .int .i64 (k : Int) ∧ k ≤ L ∧ Below w.heap.size w wr) (fun v _ => L - (intOf v).toNat)
  case atStart => exact ⟨0, rfl, by omega, Below.refl _ _⟩
  case round =>
    obtain ⟨k, rfl, hk, hB⟩ := hrel
    have CK := CN.out none 0 0 k [] wr hB (Lw.Rd.nil _ _ _) (by omega) (by omega)
    rw [C0.out k hk] at CK
    by_cases e : k = L
    · rw [decide_eq_true e] at CK
      have CK := Lib.hid CK
      subst e
      go_wp2_with (go_at_call 13; (with_reducible refine (CK.out).mono ?_); rintro e w1 ⟨rfl, hb1⟩)
      have hB1 : Below w.heap.size w w1 := Lw.bt hB hb1
      go_loopw [4] (fun v wr => ∃ i : Nat, i ≤ k ∧ wr.ownsRow w.heap.size 4 1 v i (Lw.bsV (TT.take i)) ∧ Below w.heap.size w wr) (fun v _ => k - (match v with | .slice _ n _ => n | _ => 0))
      case atStart => exact ⟨0, by omega, by rw [T0.out]; exact World.ownsRow_nil _ _ _ _, hB1⟩
      case round =>
        obtain ⟨i, hi, own, hX⟩ := hrel
        obtain ⟨D, g, rfl, _⟩ := Lw.ownsForm own
        have hzx := hX.size
        have him : i < k ∨ ¬ i < k := by omega
        rcases him with hil | hil
        · have hil' : (i : Int) < (k : Int) := by omega
          have RT := Lib.hid (Lw.Rd.of_own own)
          have OWN := Lib.hid own
          have LIT := Lib.hid (fun (W : World) (hz : wr.heap.size ≤ W.heap.size) => Lw.own_lit W (base := wr.heap.size) (e := 4) (size := 1) (n := 0) (cs := #[]) (xs := []) rfl rfl (by omega) hz)
          have hl : (TT.take i).length = i := by rw [List.length_take, TL]; omega
          have TGi := TG.out i hil
          have C1i := C1.out i hil
          clear own
          generalize Lw.tapF rows k i = tb at *
          cases tb with
          | false =>
            have TG2 : Hid (Lw.bsV (TT.take (i + 1)) = Lw.bsV (TT.take i) ++ [.bool false]) := Lib.hid (by rw [TGi, Lw.bsV_app])
            have CX := Lib.hid (fun (B : Option Addr) d W (hb : Below w.heap.size w W) (RB : Lw.Rd W 1 B (i + 1) (Lw.bsV (TT.take i ++ [false]))) => show Calls Try.prog 13 #[.slice A N c, .slice B (i + 1) d, .int .i64 (k : Int)] W fun e w' => e = .returned (.bool true) ∧ Below W.heap.size W w' from by
              have h := CN.out B (i + 1) d k (TT.take i ++ [false]) W hb RB (by omega) (by omega)
              rw [C1i] at h
              exact h)
            go_wp2_with (first
              | (at_builtin; go_loud (refine Lw.wpList_app elBol rfl _ _ rfl rfl (LIT.out wr (Nat.le_refl _)) rfl (RT.out.below (Nat.le_refl _) (Lw.balloc (Below.refl _ _) _)) (Lw.bsV_one _) (by omega) (Lw.balloc (Below.refl _ _) _) (Nat.le_refl _) (by simp) ?_); intro v2 w2 own2 hb2 _ _; have O2 := Lib.hid own2; have hz2 := hb2.size; clear own2)
              | (at_builtin; go_loud (refine Lw.wpList_app elBol rfl _ _ rfl rfl (O2.out.alloc _) rfl (by first | exact Lw.Rd.nil _ _ _ | exact Lw.Rd.lit (Lw.blk_new' (by simp) _ _) rfl rfl | exact Lw.Rd.lit (Lw.blk_alloc (Lw.blk_new' (by simp) _ _) _) rfl rfl) (Lw.oneb _) (by omega) (Lw.balloc hb2 _) (Nat.le_refl _) (by simp; omega) ?_); intro v3 w3 own3 hb3 _ _; rw [Nat.zero_add] at own3; rw [List.nil_append, ← Lw.bsV_app] at own3; obtain ⟨C3, g3, rfl, _⟩ := Lw.ownsForm own3; have RD3 := Lib.hid (Lw.Rd.of_own own3); have hz3 := hb3.size; clear own3)
              | (go_at_call 13; (with_reducible refine (CX.out C3 g3 _ (Lw.bt hX hb3) RD3.out).mono ?_); rintro e w4 ⟨rfl, hb4⟩; have hB4 := Lw.bt hb3 hb4; have hz4 := hB4.size)
              | (at_builtin; go_loud (refine Lw.wpList_app elBol rfl _ _ rfl rfl ((Lw.ownsBelow OWN.out (Nat.le_refl _) hB4).alloc _) rfl (by first | exact Lw.Rd.nil _ _ _ | exact Lw.Rd.lit (Lw.blk_new' (by simp) _ _) rfl rfl | exact Lw.Rd.lit (Lw.blk_alloc (Lw.blk_new' (by simp) _ _) _) rfl rfl) (Lw.oneb _) (by omega) (Lw.balloc (Lw.bt hX hB4) _) (Nat.le_refl _) (by simp; omega) ?_); intro v5 w5 own5 hb5 _ _))
            have O5 := Lib.hid own5
            clear own5
            go_wp2_with fail
            go_roundw
            case rel => exact ⟨i + 1, by omega, by rw [TG2.out]; exact O5.out, hb5⟩
            case measure =>
              obtain ⟨C5, g5, rfl, _⟩ := Lw.ownsForm O5.out
              simp; omega

          | true =>
            have TG2 : Hid (Lw.bsV (TT.take (i + 1)) = Lw.bsV (TT.take i) ++ [.bool true]) := Lib.hid (by rw [TGi, Lw.bsV_app])
            have CX := Lib.hid (fun (B : Option Addr) d W (hb : Below w.heap.size w W) (RB : Lw.Rd W 1 B (i + 1) (Lw.bsV (TT.take i ++ [false]))) => show Calls Try.prog 13 #[.slice A N c, .slice B (i + 1) d, .int .i64 (k : Int)] W fun e w' => e = .returned (.bool false) ∧ Below W.heap.size W w' from by
              have h := CN.out B (i + 1) d k (TT.take i ++ [false]) W hb RB (by omega) (by omega)
              rw [C1i] at h
              exact h)
            go_wp2_with (first
              | (at_builtin; go_loud (refine Lw.wpList_app elBol rfl _ _ rfl rfl (LIT.out wr (Nat.le_refl _)) rfl (RT.out.below (Nat.le_refl _) (Lw.balloc (Below.refl _ _) _)) (Lw.bsV_one _) (by omega) (Lw.balloc (Below.refl _ _) _) (Nat.le_refl _) (by simp) ?_); intro v2 w2 own2 hb2 _ _; have O2 := Lib.hid own2; have hz2 := hb2.size; clear own2)
              | (at_builtin; go_loud (refine Lw.wpList_app elBol rfl _ _ rfl rfl (O2.out.alloc _) rfl (by first | exact Lw.Rd.nil _ _ _ | exact Lw.Rd.lit (Lw.blk_new' (by simp) _ _) rfl rfl | exact Lw.Rd.lit (Lw.blk_alloc (Lw.blk_new' (by simp) _ _) _) rfl rfl) (Lw.oneb _) (by omega) (Lw.balloc hb2 _) (Nat.le_refl _) (by simp; omega) ?_); intro v3 w3 own3 hb3 _ _; rw [Nat.zero_add] at own3; rw [List.nil_append, ← Lw.bsV_app] at own3; obtain ⟨C3, g3, rfl, _⟩ := Lw.ownsForm own3; have RD3 := Lib.hid (Lw.Rd.of_own own3); have hz3 := hb3.size; clear own3)
              | (go_at_call 13; (with_reducible refine (CX.out C3 g3 _ (Lw.bt hX hb3) RD3.out).mono ?_); rintro e w4 ⟨rfl, hb4⟩; have hB4 := Lw.bt hb3 hb4; have hz4 := hB4.size)
              | (at_builtin; go_loud (refine Lw.wpList_app elBol rfl _ _ rfl rfl ((Lw.ownsBelow OWN.out (Nat.le_refl _) hB4).alloc _) rfl (by first | exact Lw.Rd.nil _ _ _ | exact Lw.Rd.lit (Lw.blk_new' (by simp) _ _) rfl rfl | exact Lw.Rd.lit (Lw.blk_alloc (Lw.blk_new' (by simp) _ _) _) rfl rfl) (Lw.oneb _) (by omega) (Lw.balloc (Lw.bt hX hB4) _) (Nat.le_refl _) (by simp; omega) ?_); intro v5 w5 own5 hb5 _ _))
            have O5 := Lib.hid own5
            clear own5
            go_wp2_with fail
            go_roundw
            case rel => exact ⟨i + 1, by omega, by rw [TG2.out]; exact O5.out, hb5⟩
            case measure =>
              obtain ⟨C5, g5, rfl, _⟩ := Lw.ownsForm O5.out
              simp; omega

        · have hil' : ¬ (i : Int) < (k : Int) := by omega
          have hie : i = k := by omega
          rw [hie, List.take_of_length_le (by omega)] at own
          have RR := Lib.hid (Lw.Rd.of_own own)
          clear own
          rw [hie]
          have hkk : ¬ (k : Int) < (k : Int) := by omega
          go_wp2_with fail
          go_ret
          exact ⟨D, g, rfl, RR.out, hX⟩
    · rw [decide_eq_false e] at CK
      have CK := Lib.hid CK
      have ek : IntKind.i64.wrap ((k : Int) + 1) = (k : Int) + 1 := by rw [IntKind.wrap_i64]; omega
      go_wp2_with (go_at_call 13; (with_reducible refine (CK.out).mono ?_); rintro e w1 ⟨rfl, hb1⟩)
      go_roundw
      case rel => exact ⟨k + 1, by go_num, by omega, Lw.bt hB hb1⟩
      case measure => simp [intOf]; omega
end Go.Proofs.Ytafefengppiobaa
set_option linter.unusedVariables false
namespace Go.Proofs.Ytafefengppiobaa.LW
open Go.RowKit
set_option maxHeartbeats 1000000 in
theorem ShiftShort (A : Option Addr) (n c : Nat) (w : World) (hA : Lw.IsSl w [Lw.IsB] A n c) :
    Calls Try.prog 3 #[.slice A n c] w fun e w' => e = .returned (.bool true) ∧ Below w.heap.size w w' := by
  obtain ⟨l, RA, l1⟩ := hA.bools
  clear hA
  by_cases h : 64 < n
  · have X := Lib.hid (shift_Short_large A n c w h)
    have i1 : (64 : Int) < (n : Int) := by omega
    clear h RA l1
    go_enter Try.func3, Try.ntmps3
    go_wp2_with fail
    refine X.out.mono ?_
    rintro e w' ⟨rfl, rfl⟩
    go_wp2
    go_ret
    exact ⟨rfl, Below.refl _ _⟩
  · have X := Lib.hid (shift_Short_ok A n c l w RA (by omega))
    have Y := Lib.hid (fun L rows W (hb : Below w.heap.size w W) hL hS => ref_Short A n c L l rows W (RA.below (Nat.le_refl _) hb) (by omega) hL hS)
    have i1 : ¬ (64 : Int) < (n : Int) := by omega
    have n64 : n ≤ 64 := by omega
    clear RA l1 h
    go_enter Try.func3, Try.ntmps3
    go_wp2_with fail
    refine X.out.mono ?_
    rintro e w1 ⟨L, rows, C, g, rfl, hL, hS, R1, hb1⟩
    have R1 := Lib.hid R1
    have YY := Lib.hid (Y.out L rows w1 hb1 hL hS)
    clear hS
    go_wp2_with fail
    refine YY.out.mono ?_
    rintro e w2 ⟨D, f, rfl, R2, hb2⟩
    have R2 := Lib.hid R2
    go_wp2_with fail
    refine (ref_Bools C D L L g f _ _ w2 (R1.out.below (Nat.le_refl _) hb2) R2.out (by omega) (by omega)).mono ?_
    rintro e w3 ⟨rfl, hb3⟩
    go_wp2_with fail
    go_ret
    exact ⟨by simp, Lw.bt (Lw.bt hb1 hb2) hb3⟩
end Go.Proofs.Ytafefengppiobaa.LW

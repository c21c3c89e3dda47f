/- The reference's Perfect. -/
import Derived.Test.YteeicpfjmahmeaaPar
namespace Lw
open Go Go.RowKit Go.Maps
/-- the three counters of the reference's loops -/
def RefJ (T : List TRow) (W : Nat) (zs : List Int) (j : Nat) : Prop := ∀ s, s < j → ∀ m, m < W → cntZ (colL T m) T.length (zs.getD s 0) = cntZ (colL T 0) T.length (zs.getD s 0)
def RefM (T : List TRow) (z : Int) (k : Nat) : Prop := ∀ m, m < k → cntZ (colL T m) T.length z = cntZ (colL T 0) T.length z
theorem refM_next {T : List TRow} {z : Int} {k : Nat} (h : RefM T z k) (e : cntZ (colL T k) T.length z = cntZ (colL T 0) T.length z) : RefM T z (k + 1) := fun m hm => by
  by_cases h1 : m = k
  · subst h1; exact e
  · exact h m (by omega)
theorem refJ_next {T : List TRow} {W : Nat} {zs : List Int} {j : Nat} (h : RefJ T W zs j) (e : RefM T (zs.getD j 0) W) : RefJ T W zs (j + 1) := fun m hm => by
  by_cases h1 : m = j
  · subst h1; exact e
  · exact h m (by omega)
theorem ref_next {T : List TRow} {W k : Nat} (hk : k < T.length) (h : RefP T W k) (e : RefJ T W T[k].zs W) : RefP T W (k + 1) := fun i hi hik => by
  by_cases h1 : i = k
  · subst h1; exact e
  · exact h i hi (by omega)
end Lw
set_option linter.unusedVariables false
set_option linter.unusedSimpArgs false
namespace Go.Proofs.Yteeicpfjmahmeaa
open Go.RowKit
set_option maxHeartbeats 2000000 in
theorem ref_Perfect (A : Option Addr) (n c W : Nat) (T : List Lw.TRow) (w : World) (h : Lw.Tab .i64 w A n T) (hT16 : n ≤ 16) (hW16 : W ≤ 16) (hW : ∀ r ∈ T, r.n = W) :
    Calls Try.prog 30 #[.slice A n c] w (Lw.PlB (Lw.RefP T W T.length) w) := by
  have HT := Lib.hid h
  have HL := Lib.hid h.len
  have HWd := Lib.hid hW
  have KO := Lib.hid (fun m (z : Int) (hm : m < W) => ref_keysOf A n c m W z T w h hW hm hT16 hW16)
  have PN := Lib.hid (fun k hk h h2 => Lw.ref_next (T := T) (W := W) (k := k) hk h h2)
  have JN := Lib.hid (fun zs j h h2 => Lw.refJ_next (T := T) (W := W) (zs := zs) (j := j) h h2)
  have MN := Lib.hid (fun z k h h2 => Lw.refM_next (T := T) (z := z) (k := k) h h2)
  have PE : Hid (Lw.RefP T W T.length ↔ ∀ i (hi : i < T.length), Lw.RefJ T W T[i].zs W) := ⟨fun h i hi => h i hi hi, fun h i hi _ => h i hi⟩
  generalize hQ : Lw.RefP T W T.length = Q at PE ⊢
  have HQ := Lib.hid hQ
  clear h hQ hW
  go_enter Try.func30, Try.ntmps30
  go_wp2
  go_loop [4, 6, 7, 10] (fun r x m i => ∃ k : Nat, i = .int .i64 (k : Int) ∧ k ≤ n ∧ Hid (Lw.RefP T W k)) (fun _ _ _ i => n - (intOf i).toNat)
  case atStart => exact ⟨0, rfl, by omega, fun i hi h => by omega⟩
  case round =>
    obtain ⟨k, rfl, hk, H⟩ := hrel
    by_cases hlt : k < n
    · have hlt' : (k : Int) < (n : Int) := by omega
      obtain ⟨hkl, ad, rfl, had, hcell, RO⟩ := HT.out.at_ hlt
      have PNk := PN.out k hkl H.out
      have rW := HWd.out _ (List.getElem_mem hkl)
      have PF : ¬ Lw.RefJ T W T[k].zs W → Hid (¬ Q) := fun hd hq => hd (PE.out.1 hq k hkl)
      obtain ⟨⟨rA, rn, rc, zs⟩, hr⟩ : ∃ z, T[k] = z := ⟨_, rfl⟩
      rw [hr] at hcell PNk PF RO rW
      simp only at hcell PNk PF rW
      subst rW
      have RR := Lib.hid (show Lw.Rd w 1 rA rn (Lw.intsV .i64 zs) from RO.1)
      have lz : Hid (zs.length = rn) := Lib.hid RO.len
      clear hr RO hkl had
      go_wp2
      go_loop [6, 7, 16] (fun x m i => ∃ s : Nat, i = .int .i64 (s : Int) ∧ s ≤ rn ∧ Hid (Lw.RefJ T rn zs s)) (fun _ _ i => rn - (intOf i).toNat)
      case atStart => exact ⟨0, rfl, by omega, fun i hi => by omega⟩
      case round =>
        obtain ⟨s, rfl, hs, HJ⟩ := hrel
        by_cases hsl : s < rn
        · have hsl' : (s : Int) < (rn : Int) := by omega
          have sl : s < zs.length := by rw [lz.out]; exact hsl
          obtain ⟨ae, e1, hae, ecell⟩ := RR.out.at1 hsl (Lw.intsV_get sl)
          have gs : zs.getD s 0 = zs[s] := by rw [List.getD_eq_getElem?_getD, List.getElem?_eq_getElem sl]; rfl
          obtain ⟨x, hx⟩ : ∃ z, zs[s] = z := ⟨_, rfl⟩
          rw [hx] at ecell gs
          have GS := Lib.hid gs
          subst e1
          clear hx sl hae gs
          go_wp2
          go_loop [7] (fun m => ∃ t : Nat, m = .int .i64 (t : Int) ∧ t ≤ rn ∧ Hid (Lw.RefM T x t)) (fun m => rn - (intOf m).toNat)
          case atStart => exact ⟨0, rfl, by omega, fun i hi => by omega⟩
          case round =>
            obtain ⟨t, rfl, ht, HM⟩ := hrel
            by_cases htl : t < rn
            · have htl' : (t : Int) < (rn : Int) := by omega
              have K1 := Lib.hid (KO.out t x htl)
              have K2 := KO.out 0 x (by omega)
              rw [show (((0 : Nat) : Int)) = 0 from rfl] at K2
              replace K2 := Lib.hid K2
              have MNt := MN.out x t HM.out
              have PF2 : ¬ Lw.cntZ (Lw.colL T t) T.length x = Lw.cntZ (Lw.colL T 0) T.length x → Hid (¬ Q) := fun hd => PF fun hJ => hd (by have := hJ s hsl t htl; rw [GS.out] at this; exact this)
              generalize Lw.cntZ (Lw.colL T t) T.length x = a at *
              generalize Lw.cntZ (Lw.colL T 0) T.length x = b at *
              by_cases e : a = b
              · have M2 := Lib.hid (MNt e)
                have zb : ((a : Int) == (b : Int)) = true := by simp; omega
                clear PNk PF PF2 MNt
                go_wp2_with fail
                refine K1.out.mono ?_
                rintro e w1 ⟨rfl, rfl⟩
                go_wp2_with fail
                refine K2.out.mono ?_
                rintro e w2 ⟨rfl, rfl⟩
                go_wp2
                go_round
                case rel => exact ⟨t + 1, by go_num, by omega, M2⟩
                case measure => simp [intOf]; omega
              · have NQ := PF2 e
                have zb : ((a : Int) == (b : Int)) = false := by simp; omega
                clear PNk PF PF2 MNt
                go_wp2_with fail
                refine K1.out.mono ?_
                rintro e w1 ⟨rfl, rfl⟩
                go_wp2_with fail
                refine K2.out.mono ?_
                rintro e w2 ⟨rfl, rfl⟩
                go_wp2
                go_ret
                exact ⟨⟨false, rfl, by simpa using NQ.out⟩, 0, rfl⟩
            · have hts : t = rn := by omega
              subst hts
              have J2 := Lib.hid (JN.out zs s HJ.out (by rw [GS.out]; exact HM.out))
              clear PNk PF
              go_wp2
              go_round
              case rel => exact ⟨s + 1, by go_num, by omega, J2⟩
              case measure => simp [intOf]; omega
        · have hsr : s = rn := by omega
          subst hsr
          have P2 := Lib.hid (PNk HJ.out)
          clear PNk PF
          go_wp2
          go_round
          case rel => exact ⟨k + 1, by go_num, by omega, P2⟩
          case measure => simp [intOf]; omega
    · have hkn : k = n := by omega
      have YQ : Hid Q := by have h1 := H.out; have h2 := HQ.out; have h3 := HL.out; rw [← h2, h3, ← hkn]; exact h1
      subst hkn
      go_wp2
      go_ret
      exact ⟨⟨true, rfl, by simpa using YQ.out⟩, 0, rfl⟩
end Go.Proofs.Yteeicpfjmahmeaa

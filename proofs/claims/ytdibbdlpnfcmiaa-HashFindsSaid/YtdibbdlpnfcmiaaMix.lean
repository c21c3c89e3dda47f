/- What is mixed of a text, one by one (plain), and where two texts first differ from behind. -/
import Derived.Test.YtdibbdlpnfcmiaaBytes2
namespace Lw
open Go Go.RowKit
/-- what is mixed: the number ahead, and the byte, place by place -/
def mxs (ps : List Int) : List (Int × Int) := (List.range ps.length).map fun k => (hsumL (ps.take k), ps.getD k 0)
theorem mxs_length (ps : List Int) : (mxs ps).length = ps.length := by simp [mxs]
theorem mxs_get {ps : List Int} {k : Nat} (h : k < ps.length) : (mxs ps)[k]'(by rw [mxs_length]; exact h) = (hsumL (ps.take k), ps[k]) := by
  simp [mxs, List.getD_eq_getElem?_getD, h]
theorem mxs_take {ps : List Int} {k : Nat} (h : k < ps.length) : pairsV .u32 .u8 ((mxs ps).take (k + 1)) = pairsV .u32 .u8 ((mxs ps).take k) ++ [.int .u32 (hsumL (ps.take k)), .int .u8 ps[k]] := by
  rw [List.take_succ_eq_append_getElem (by rw [mxs_length]; exact h), mxs_get h, pairsV_append]; rfl
/-- what is mixed t places from behind -/
def mxB (bs : List Int) (t : Nat) : Int × Int := (hsumL ((padL bs).take (bs.length + 3 - t)), (padL bs).getD (bs.length + 3 - t) 0)
theorem mxB_get {bs : List Int} {t : Nat} (h : t < bs.length + 4) : (mxs (padL bs))[bs.length + 3 - t]'(by rw [mxs_length, padL_length]; omega) = mxB bs t := by
  rw [mxs_get (by rw [padL_length]; omega)]
  unfold mxB
  rw [List.getD_eq_getElem?_getD, List.getElem?_eq_getElem (by rw [padL_length]; omega)]
  rfl
/-- the first place from behind at which two texts differ -/
def FirstDiff (a b : List Int) (t : Nat) : Prop := t < a.length + 4 ∧ t < b.length + 4 ∧ mxB a t ≠ mxB b t ∧ ∀ s, s < t → mxB a s = mxB b s
theorem little4_inj {n m : Int} (n0 : 0 ≤ n) (n1 : n < 4294967296) (m0 : 0 ≤ m) (m1 : m < 4294967296) (h : littleL n 4 = littleL m 4) : n = m := by
  have e : ∀ k : Int, littleL k 4 = [k % 256, k / 256 % 256, k / 256 / 256 % 256, k / 256 / 256 / 256 % 256] := fun _ => rfl
  rw [e, e] at h
  simp only [List.cons.injEq, and_true] at h
  obtain ⟨h1, h2, h3, h4⟩ := h
  omega
theorem diff_or (a b : List Int) : ∀ m, m ≤ a.length + 4 → m ≤ b.length + 4 → (∃ t, FirstDiff a b t) ∨ ∀ s, s < m → mxB a s = mxB b s
  | 0, _, _ => .inr fun s h => by omega
  | m + 1, h1, h2 => by
    rcases diff_or a b m (by omega) (by omega) with h | h
    · exact .inl h
    · by_cases e : mxB a m = mxB b m
      · refine .inr fun s hs => ?_
        by_cases hm : s = m
        · subst hm; exact e
        · exact h s (by omega)
      · exact .inl ⟨m, by omega, by omega, e, h⟩
/-- two texts that are not the same differ somewhere within the shorter one -/
theorem first_diff {a b : List Int} (ha : a.length ≤ 65536) (hb : b.length ≤ 65536) (hne : a ≠ b) : ∃ t, FirstDiff a b t := by
  by_cases hl : a.length = b.length
  · rcases diff_or a b (a.length + 4) (Nat.le_refl _) (by omega) with h | h
    · exact h
    · exfalso
      apply hne
      apply List.ext_getElem hl
      intro k h1 h2
      have e := congrArg Prod.snd (h (a.length + 3 - k) (by omega))
      unfold mxB at e
      simp only at e
      rw [show a.length + 3 - (a.length + 3 - k) = k by omega, show b.length + 3 - (a.length + 3 - k) = k by omega] at e
      unfold padL at e
      rw [List.getD_eq_getElem?_getD, List.getD_eq_getElem?_getD, List.getElem?_append_left h1, List.getElem?_append_left h2] at e
      simpa [h1, h2] using e
  · rcases diff_or a b 4 (by omega) (by omega) with h | h
    · exact h
    · exfalso
      have key : littleL (a.length : Int) 4 = littleL (b.length : Int) 4 := by
        apply List.ext_getElem (by simp [littleL_length])
        intro k h1 h2
        rw [littleL_length] at h1 h2
        have e := congrArg Prod.snd (h (3 - k) (by omega))
        unfold mxB at e
        simp only at e
        rw [show a.length + 3 - (3 - k) = a.length + k by omega, show b.length + 3 - (3 - k) = b.length + k by omega] at e
        unfold padL at e
        rw [List.getD_eq_getElem?_getD, List.getD_eq_getElem?_getD, List.getElem?_append_right (by omega), List.getElem?_append_right (by omega), Nat.add_sub_cancel_left, Nat.add_sub_cancel_left] at e
        rw [List.getElem?_eq_getElem (by rw [littleL_length]; exact h1), List.getElem?_eq_getElem (by rw [littleL_length]; exact h2)] at e
        simpa using e
      have := little4_inj (by omega) (by omega) (by omega) (by omega) key
      omega
end Lw
set_option linter.unusedVariables false
set_option linter.unusedSimpArgs false
namespace Go.Proofs.Ytdibbdlpnfcmiaa
open Go.RowKit
theorem elMix : Lw.El Try.prog 85 53 (.agg #[.int .u32 0, .int .u8 0]) 2 8 := Lw.El.mk' Try.underlying85 (by kernel_rfl) rfl (by decide) (by decide)
set_option maxHeartbeats 1000000 in
theorem hash_mixes (A : Option Addr) (n c : Nat) (bs : List Int) (w : World) (R : Lw.Rd w 1 A n (Lw.intsV .u8 bs)) (hy : Lw.Byt bs) (hm : n ≤ 65536) :
    Calls Try.prog 53 #[.slice A n c] w (Lw.OwnRes 53 2 (Lw.pairsV .u32 .u8 (Lw.mxs (Lw.padL bs))) (n + 4) w) := by
  have l1 : bs.length = n := by have := R.1; simpa [Lw.intsV] using this
  have L : Hid ((Lw.padL bs).length = n + 4) := by rw [← l1]; exact Lw.padL_length bs
  have Y := Lw.padL_byt hy
  have R := Lib.hid R
  clear l1 hy
  go_enter Try.func53, Try.ntmps53
  go_wp2_with (go_at_call 66; refine (hash_padded A n c bs _ R.out (by omega)).mono ?_; rintro e w1 ⟨A1, c1, rfl, own1, hb1⟩)
  have R1 := Lib.hid (Lw.Rd.of_own own1)
  clear own1 R
  generalize Lw.padL bs = ps at *
  go_loopw [3, 4, 6, 10] (fun l h b i wr => ∃ k : Nat, i = .int .i64 (k : Int) ∧ k ≤ n + 4 ∧ h = .int .u32 (Lw.hsumL (ps.take k)) ∧ wr.ownsRow w1.heap.size 53 2 l k (Lw.pairsV .u32 .u8 ((Lw.mxs ps).take k)) ∧ Below w1.heap.size w1 wr) (fun _ _ _ i _ => n + 4 - (intOf i).toNat)
  case atStart => exact ⟨0, rfl, by omega, rfl, World.ownsRow_nil _ _ _ _, Below.refl _ _⟩
  case round =>
    obtain ⟨k, rfl, k1, rfl, own, hB⟩ := hrel
    have OWN := Lib.hid own
    clear own
    have hsz := hB.size
    have hs1 := hb1.size
    obtain ⟨s1, s2⟩ := Lw.hsumL_bd (ps.take k)
    by_cases hlt : k < n + 4
    · have hl : k < ps.length := by rw [L.out]; exact hlt
      obtain ⟨ad, rfl, had, hcell⟩ := (R1.out.below (Nat.le_refl _) hB).at1 hlt (Lw.intsV_get hl)
      have T := Lib.hid (Lw.hs_take hl)
      have T2 := Lib.hid (Lw.mxs_take hl)
      obtain ⟨x, hx⟩ : ∃ x, ps[k] = x := ⟨_, rfl⟩
      obtain ⟨x1, x2⟩ := Y x (hx ▸ List.getElem_mem hl)
      rw [hx] at hcell T T2
      clear hx
      go_wp2_with (first | (at_builtin; refine Lw.wpList_app elMix rfl _ _ rfl rfl (OWN.out.alloc _) rfl (by first | exact Lw.Rd.nil _ _ _ | exact Lw.Rd.lit (Lw.blk_new' (by simp) _ _) rfl rfl | exact Lw.Rd.lit (Lw.blk_alloc (Lw.blk_new' (by simp) _ _) _) rfl rfl) (Lw.one2 _ _ _ _) (by omega) (Lw.balloc hB _) (Nat.le_refl _) (by simp; omega) ?_; intro v2 w2 own2 hb2 _ _) | (go_at_call 67; refine (hash_step _ x _ s1 (by omega) x1 x2).mono ?_; rintro e w' ⟨rfl, rfl⟩))
      have O2 := Lib.hid own2
      clear own2
      go_roundw
      case rel => exact ⟨k + 1, by go_num, by omega, by rw [T.out], by rw [T2.out]; exact O2.out, hb2⟩
      case measure => simp [intOf]; omega
    · have hk : (Lw.mxs ps).take k = Lw.mxs ps := List.take_of_length_le (by rw [Lw.mxs_length, L.out]; omega)
      have hkn : k = n + 4 := by omega
      have K := Lib.hid hk
      clear hk
      subst hkn
      go_wp2
      go_ret
      have O := OWN.out
      rw [K.out] at O
      obtain ⟨B, c', rfl, _⟩ := Lw.ownsForm O
      exact ⟨B, c', rfl, Lw.ownsBase O hs1, Lw.bt hb1 hB⟩
end Go.Proofs.Ytdibbdlpnfcmiaa

/- Contracts of package shake's helpers: texts, sums, what is asked of a group one by one. -/
import Derived.Test.YtfidmmgcmfnleaaAsks
import Derived.Test.YtfidmmgcmfnleaaGrp1
import Derived.Test.YtfidmmgcmfnleaaCom2
namespace Lw
open Go Go.RowKit
def textL (xs : List Int) : List Int := xs.flatMap fun x => littleL x 4
theorem textL_snoc (xs : List Int) (x : Int) : textL (xs ++ [x]) = textL xs ++ littleL x 4 := by simp [textL]
theorem textL_take {xs : List Int} {k : Nat} (h : k < xs.length) : intsV .u8 (textL (xs.take (k + 1))) = intsV .u8 (textL (xs.take k)) ++ intsV .u8 (littleL xs[k] 4) := by
  rw [List.take_succ_eq_append_getElem h, textL_snoc, intsV_app]
theorem textL_byt (xs : List Int) : Byt (textL xs) := by
  intro b hb
  obtain ⟨x, _, hx⟩ := List.mem_flatMap.1 hb
  exact littleL_byt 4 x b hx
theorem textL_len (xs : List Int) : (textL xs).length = 4 * xs.length := by
  induction xs with
  | nil => rfl
  | cons x xs ih => simp only [textL, List.flatMap_cons, List.length_append, littleL_length, List.length_cons] at *; omega
theorem byt_cons {b : Int} {bs : List Int} (h0 : 0 ≤ b) (h1 : b < 256) (h : Byt bs) : Byt (b :: bs) := by
  intro x hx; rcases List.mem_cons.1 hx with rfl | hx
  · exact ⟨h0, h1⟩
  · exact h x hx
/-- a cell that is set to what it holds -/
theorem set_same {W : World} {b i : Nat} {cs : Array Value} {t : TypeId} {v : Value} (h : W.heap[b]? = some (.cells cs t (0, 0))) (hv : cs[i]? = some v) : W.setCell ⟨b, i, none⟩ v = W := by
  have hb : b < W.heap.size := blk_lt h
  have he : W.heap[b] = .cells cs t (0, 0) := by rw [Array.getElem?_eq_getElem hb] at h; injection h
  obtain ⟨hi, hv2⟩ := Array.getElem?_eq_some_iff.1 hv
  have e : W.heap.modify b (fun | .cells c elem frozen => .cells (if (none : Option Nat).isSome then c else c.setIfInBounds i v) elem frozen | o => o) = W.heap := by
    apply Array.ext
    · simp
    · intro j h1 h2
      rw [Array.getElem_modify]
      split
      · rename_i hj; subst hj
        rw [he]
        have : cs.setIfInBounds i v = cs := by
          apply Array.ext
          · simp
          · intro k h3 h4
            rw [Array.getElem_setIfInBounds]
            split
            · rename_i hk; subst hk; exact hv2.symm
            · rfl
        simp [this]
      · rfl
  unfold World.setCell
  exact congrArg (fun h => { W with heap := h }) e
end Lw
set_option linter.unusedVariables false
set_option linter.unusedSimpArgs false
namespace Go.Proofs.Ytfidmmgcmfnleaa
open Go.RowKit
set_option maxHeartbeats 1000000 in
theorem shake_text (A : Option Addr) (n c : Nat) (xs : List Int) (w : World) (R : Lw.Rd w 1 A n (Lw.intsV .i64 xs)) (hx : ∀ x ∈ xs, 0 ≤ x ∧ x ≤ 1048576) (hm : n ≤ 64) :
    Calls Try.prog 38 #[.slice A n c] w (Lw.OwnRes 5 1 (Lw.intsV .u8 (Lw.textL xs)) (4 * n) w) := by
  have l1 : xs.length = n := by have := R.1; simpa [Lw.intsV] using this
  have L := Lib.hid l1
  have R := Lib.hid R
  clear l1
  go_enter Try.func38, Try.ntmps38
  go_wp2
  go_loopw [3, 5, 8] (fun b x i wr => ∃ k : Nat, i = .int .i64 (k : Int) ∧ k ≤ n ∧ wr.ownsRow w.heap.size 5 1 b (4 * k) (Lw.intsV .u8 (Lw.textL (xs.take k))) ∧ Below w.heap.size w wr) (fun _ _ i _ => n - (intOf i).toNat)
  case atStart => exact ⟨0, rfl, by omega, World.ownsRow_nil _ _ _ _, Below.refl _ _⟩
  case round =>
    obtain ⟨k, rfl, k1, own, hB⟩ := hrel
    have hsz := hB.size
    have OWN := Lib.hid own
    clear own
    by_cases hlt : k < n
    · have hl : k < xs.length := by have := L.out; omega
      obtain ⟨ad, rfl, had, hcell⟩ := (R.out.below (Nat.le_refl _) hB).at1 hlt (Lw.intsV_get hl)
      have T := Lib.hid (Lw.textL_take hl)
      obtain ⟨x, hx0⟩ : ∃ x, xs[k] = x := ⟨_, rfl⟩
      obtain ⟨x1, x2⟩ := hx x (hx0 ▸ List.getElem_mem hl)
      rw [hx0] at hcell T
      clear hx0
      go_wp2_with (first | (go_at_call 46; refine (hash_Little x 4 _ x1 (by omega) (by omega)).mono ?_; rintro e w1 ⟨A1, c1, rfl, own1, hb1⟩) | (at_builtin; refine Lw.wpList_app elByte rfl _ _ rfl rfl (Lw.ownsBelow OWN.out (Nat.le_refl _) hb1) rfl (Lw.Rd.of_own own1) (Lw.intsV_one _ _) (by omega) (Lw.bt hB hb1) (Nat.le_refl _) (by have := hb1.size; omega) ?_; intro v2 w2 own2 hb2 _ _))
      have O2 := Lib.hid own2
      clear own1 own2
      go_wp2
      go_roundw
      case rel => exact ⟨k + 1, by go_num, by omega, by rw [T.out]; exact O2.out, hb2⟩
      case measure => simp [intOf]; omega
    · have hk : k = n := by omega
      subst hk
      have T : Hid (xs.take k = xs) := by rw [← L.out]; exact List.take_length
      go_wp2
      go_ret
      have O := OWN.out
      rw [T.out] at O
      obtain ⟨B, c', rfl, _⟩ := Lw.ownsForm O
      exact ⟨B, c', rfl, O, hB⟩
theorem shake_text_five (A : Option Addr) (c : Nat) (xs : List Int) (w : World) (R : Lw.Rd w 1 A 5 (Lw.intsV .i64 xs)) (hx : ∀ x ∈ xs, 0 ≤ x ∧ x ≤ 1048576) :
    Calls Try.prog 38 #[.slice A 5 c] w (Lw.OwnRes 5 1 (Lw.intsV .u8 (Lw.textL xs)) 20 w) := shake_text A 5 c xs w R hx (by decide)

set_option maxHeartbeats 1000000 in
theorem ref_ShakeText (A : Option Addr) (n c : Nat) (xs : List Int) (w : World) (R : Lw.Rd w 1 A n (Lw.intsV .i64 xs)) (hx : ∀ x ∈ xs, 0 ≤ x ∧ x ≤ 1048576) (hm : n ≤ 64) :
    Calls Try.prog 22 #[.slice A n c] w (Lw.OwnRes 5 1 (Lw.intsV .u8 (Lw.textL xs)) (4 * n) w) := by
  have l1 : xs.length = n := by have := R.1; simpa [Lw.intsV] using this
  have L := Lib.hid l1
  have R := Lib.hid R
  clear l1
  go_enter Try.func22, Try.ntmps22
  go_wp2
  go_loopw [3, 5, 8] (fun b x i wr => ∃ k : Nat, i = .int .i64 (k : Int) ∧ k ≤ n ∧ wr.ownsRow w.heap.size 5 1 b (4 * k) (Lw.intsV .u8 (Lw.textL (xs.take k))) ∧ Below w.heap.size w wr) (fun _ _ i _ => n - (intOf i).toNat)
  case atStart => exact ⟨0, rfl, by omega, World.ownsRow_nil _ _ _ _, Below.refl _ _⟩
  case round =>
    obtain ⟨k, rfl, k1, own, hB⟩ := hrel
    have hsz := hB.size
    have OWN := Lib.hid own
    clear own
    by_cases hlt : k < n
    · have hl : k < xs.length := by have := L.out; omega
      obtain ⟨ad, rfl, had, hcell⟩ := (R.out.below (Nat.le_refl _) hB).at1 hlt (Lw.intsV_get hl)
      have T := Lib.hid (Lw.textL_take hl)
      obtain ⟨x, hx0⟩ : ∃ x, xs[k] = x := ⟨_, rfl⟩
      obtain ⟨x1, x2⟩ := hx x (hx0 ▸ List.getElem_mem hl)
      rw [hx0] at hcell T
      clear hx0
      go_wp2_with (first | (go_at_call 35; refine (ref_little x 4 _ x1 (by omega) (by omega)).mono ?_; rintro e w1 ⟨A1, c1, rfl, own1, hb1⟩) | (at_builtin; refine Lw.wpList_app elByte rfl _ _ rfl rfl (Lw.ownsBelow OWN.out (Nat.le_refl _) hb1) rfl (Lw.Rd.of_own own1) (Lw.intsV_one _ _) (by omega) (Lw.bt hB hb1) (Nat.le_refl _) (by have := hb1.size; omega) ?_; intro v2 w2 own2 hb2 _ _))
      have O2 := Lib.hid own2
      clear own1 own2
      go_wp2
      go_roundw
      case rel => exact ⟨k + 1, by go_num, by omega, by rw [T.out]; exact O2.out, hb2⟩
      case measure => simp [intOf]; omega
    · have hk : k = n := by omega
      subst hk
      have T : Hid (xs.take k = xs) := by rw [← L.out]; exact List.take_length
      go_wp2
      go_ret
      have O := OWN.out
      rw [T.out] at O
      obtain ⟨B, c', rfl, _⟩ := Lw.ownsForm O
      exact ⟨B, c', rfl, O, hB⟩
theorem ref_ShakeText_five (A : Option Addr) (c : Nat) (xs : List Int) (w : World) (R : Lw.Rd w 1 A 5 (Lw.intsV .i64 xs)) (hx : ∀ x ∈ xs, 0 ≤ x ∧ x ≤ 1048576) :
    Calls Try.prog 22 #[.slice A 5 c] w (Lw.OwnRes 5 1 (Lw.intsV .u8 (Lw.textL xs)) 20 w) := ref_ShakeText A 5 c xs w R hx (by decide)

set_option maxHeartbeats 1000000 in
theorem shake_sums (A : Option Addr) (n c : Nat) (bs : List Int) (w : World) (R : Lw.Rd w 1 A n (Lw.intsV .u8 bs)) (hy : Lw.Byt bs) (hm : n ≤ 4096) :
    Calls Try.prog 37 #[.slice A n c] w fun e w' => e = .returned (.tuple #[.int .i64 (Lw.hsum (1 :: bs)), .int .i64 (Lw.hsum (2 :: bs))]) ∧ Below w.heap.size w w' := by
  have R := Lib.hid R
  have C1 := Lib.hid (fun A c w R => hash_Of A (1 + n) c (1 :: bs) w R (Lw.byt_cons (by decide) (by decide) hy) (by omega))
  have C2 := Lib.hid (fun A c w R => hash_Of A (1 + n) c (2 :: bs) w R (Lw.byt_cons (by decide) (by decide) hy) (by omega))
  obtain ⟨s1, s2⟩ := Lw.hsum_bd (1 :: bs)
  obtain ⟨t1, t2⟩ := Lw.hsum_bd (2 :: bs)
  obtain ⟨s, hs⟩ : ∃ s, Lw.hsum (1 :: bs) = s := ⟨_, rfl⟩
  obtain ⟨t, ht⟩ : ∃ s, Lw.hsum (2 :: bs) = s := ⟨_, rfl⟩
  rw [hs] at C1 s1 s2 ⊢
  rw [ht] at C2 t1 t2 ⊢
  clear hs ht
  go_enter Try.func37, Try.ntmps37
  go_wp2_with (at_builtin; refine Lw.wpList_app elByte rfl (.tmp 4) (.tmp 5) rfl rfl (Lw.own_lit w (xs := [.int .u8 1]) rfl rfl (by decide) (Nat.le_refl _)) rfl (R.out.alloc _) (Lw.intsV_one _ _) (by omega) (Lw.balloc (Below.refl _ _) _) (Nat.le_refl _) (by simp) ?_; intro v1 w1 own1 hb1 _ _)
  obtain ⟨A1, c1, rfl, _⟩ := Lw.ownsForm own1
  refine (C1.out _ _ _ (Lw.Rd.of_own own1)).mono ?_
  rintro e w2 ⟨rfl, hb2⟩
  have hb12 := Lw.bt hb1 hb2
  clear own1
  go_wp2_with (at_builtin; refine Lw.wpList_app elByte rfl (.tmp 9) (.tmp 10) rfl rfl (Lw.own_lit w2 (xs := [.int .u8 2]) rfl rfl (by decide) (Nat.le_refl _)) rfl ((R.out.below (Nat.le_refl _) hb12).alloc _) (Lw.intsV_one _ _) (by omega) (Lw.balloc hb12 _) hb12.size (by simp) ?_; intro v3 w3 own3 hb3 _ _)
  obtain ⟨A3, c3, rfl, _⟩ := Lw.ownsForm own3
  refine (C2.out _ _ _ (Lw.Rd.of_own own3)).mono ?_
  rintro e w4 ⟨rfl, hb4⟩
  clear own3
  go_wp2_with fail
  go_ret2
  exact ⟨by simp, Lw.bt hb3 hb4⟩
end Go.Proofs.Ytfidmmgcmfnleaa

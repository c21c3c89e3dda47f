/- The reference's Fit, crt.join. -/
import Derived.Test.YtoignifimgioaaaRst2
import Derived.Test.YtoignifimgioaaaCrx
namespace Lw
open Go Go.RowKit
def fit1 (r s : RestT) : Bool := decide ((r.1 - s.1) % gcdI r.2 s.2 = 0)
theorem fitB_eq (L : List RestT) : fitB L = L.all fun r => L.all fun s => fit1 r s := rfl
theorem set2c {W : World} {b : Nat} {c0 c1 x y : Value} {t : TypeId} (h : W.heap[b]? = some (.cells #[c0, c1] t (0, 0))) :
    ((W.setCell ⟨b, 0, none⟩ x).setCell ⟨b, 1, none⟩ y).heap[b]? = some (.cells #[x, y] t (0, 0)) ∧ ((W.setCell ⟨b, 0, none⟩ x).setCell ⟨b, 1, none⟩ y).cell? ⟨b, 0, none⟩ = some x ∧ ((W.setCell ⟨b, 0, none⟩ x).setCell ⟨b, 1, none⟩ y).cell? ⟨b, 1, none⟩ = some y := by
  have h1 := blk_set_same h 0 x
  have h2 := blk_set_same h1 1 y
  simp at h2
  exact ⟨h2, by have := blk_cell h2 0; simpa using this, by have := blk_cell h2 1; simpa using this⟩
theorem bset2 {w W : World} {b : Nat} (h : Below w.heap.size w W) (hb : w.heap.size ≤ b) (x y : Value) : Below w.heap.size w ((W.setCell ⟨b, 0, none⟩ x).setCell ⟨b, 1, none⟩ y) := bset (bset h hb _) hb _
end Lw
set_option linter.unusedVariables false
set_option linter.unusedSimpArgs false
namespace Go.Proofs.Ytoignifimgioaaa
open Go.RowKit
set_option maxHeartbeats 4000000 in
theorem ref_Fit (A : Option Addr) (n c : Nat) (L : List Lw.RestT) (w : World) (R : Lw.Rd w 2 A n (Lw.pairsV .i64 .i64 L)) (hn : n ≤ 8) (OK : ∀ r ∈ L, 1 ≤ r.2 ∧ r.2 ≤ 1048576 ∧ -2147483648 ≤ r.1 ∧ r.1 ≤ 2147483648) :
    Calls Try.prog 29 #[.slice A n c] w fun e w' => e = .returned (.bool (Lw.fitB L)) ∧ Below w.heap.size w w' := by
  have HL := Lib.hid (show L.length = n by have := R.1; rw [Lw.pairsV_length] at this; omega)
  have R := Lib.hid R
  have OK := Lib.hid OK
  have GC := Lib.hid (fun (a b : Int) (w : World) (a1 : 1 ≤ a) (a2 : a ≤ 1048576) (b1 : 1 ≤ b) (b2 : b ≤ 1048576) => ref_Gcd a b w (by omega) (by omega) (by omega) (by omega))
  have GB := Lib.hid (show ∀ a b : Int, 1 ≤ a → a ≤ 1048576 → 1 ≤ Lw.gcdI a b ∧ Lw.gcdI a b ≤ 1048576 from fun a b h1 h2 => by
    have h0 : 0 ≤ Lw.gcdI a b := by unfold Lw.gcdI; omega
    have hd := Lw.gcdI_dvd_left a b
    have hne : ¬ Lw.gcdI a b = 0 := fun e => by have := Lw.gcdI_zero e; omega
    have := Int.le_of_dvd (by omega) hd
    show 1 ≤ Lw.gcdI a b ∧ Lw.gcdI a b ≤ 1048576
    omega)
  go_enter Try.func29, Try.ntmps29
  go_wp2
  go_loopw [4, 9] (fun p i wr => ∃ k : Nat, k ≤ n ∧ i = .int .i64 (k : Int) ∧ Hid ((L.take k).all (fun r => L.all fun s => Lw.fit1 r s) = true) ∧ Below w.heap.size w wr) (fun _ i _ => n - (intOf i).toNat)
  case atStart => exact ⟨0, by omega, rfl, rfl, Below.refl _ _⟩
  case round =>
    obtain ⟨k, k1, rfl, TK, hB⟩ := hrel
    by_cases hlt : k < n
    · have hl : k < L.length := by rw [HL.out]; exact hlt
      obtain ⟨g0, g1⟩ := Lw.pairsV_get (k := .i64) (l := .i64) hl
      obtain ⟨ad, rfl, had, c0, c1⟩ := (R.out.below (Nat.le_refl _) hB).at2 hlt g0 g1
      have N := Lib.hid (Lw.all_take' (p := fun r => L.all fun s => Lw.fit1 r s) hl TK.out)
      have D := Lib.hid (Lw.all_at (p := fun r => L.all fun s => Lw.fit1 r s) hl)
      have rb := OK.out _ (List.getElem_mem hl)
      obtain ⟨⟨a, m⟩, hs⟩ : ∃ s, L[k] = s := ⟨_, rfl⟩
      rw [hs] at c0 c1 N D rb
      simp only at c0 c1 N D rb
      obtain ⟨m0, m1, a0, a1⟩ := rb
      clear hs g0 g1
      obtain ⟨V, hV⟩ : ∃ V, wr.alloc (.cells #[.int .i64 a, .int .i64 m] 47) = V := ⟨_, rfl⟩
      have B0 := Lib.hid (hV ▸ Lw.blk_new wr #[.int .i64 a, .int .i64 m] 47)
      have hBV : Below w.heap.size w V := by rw [← hV]; exact Lw.balloc hB _
      have hVs : wr.heap.size < V.heap.size := by rw [← hV]; simp
      obtain ⟨B, hBe⟩ : ∃ B, wr.heap.size = B := ⟨_, rfl⟩
      have HV := Lib.hid hV
      have HB := Lib.hid hBe
      clear hV hBe
      go_wp2
      rw [HV.out]
      rw [HB.out] at B0 hVs
      (try rw [HB.out])
      clear HV HB c0 c1 hB
      go_loopw [6, 15] (fun p i wt => ∃ j : Nat, j ≤ n ∧ i = .int .i64 (j : Int) ∧ Hid ((L.take j).all (fun s => Lw.fit1 (a, m) s) = true) ∧ Below V.heap.size V wt) (fun _ i _ => n - (intOf i).toNat)
      case atStart => exact ⟨0, by omega, rfl, rfl, Below.refl _ _⟩
      case round =>
        obtain ⟨j, j1, rfl, TJ, hB2⟩ := hrel
        have D0 := (hB2.block B hVs).trans B0.out
        have l0 := Lw.blk_cell D0 0; have l1 := Lw.blk_cell D0 1
        simp at l0 l1
        have hzr := hB2.size
        have hs0 : B < wr.heap.size := by omega
        by_cases hlj : j < n
        · have hl2 : j < L.length := by rw [HL.out]; exact hlj
          obtain ⟨g0, g1⟩ := Lw.pairsV_get (k := .i64) (l := .i64) hl2
          obtain ⟨ae, hae, _, c0, c1⟩ := (R.out.below (Nat.le_refl _) (Lw.bt hBV hB2)).at2 hlj g0 g1
          injection hae with hae
          subst hae
          have N2 := Lib.hid (Lw.all_take' (p := fun s => Lw.fit1 (a, m) s) hl2 TJ.out)
          have D2 := Lib.hid (Lw.all_at (p := fun s => Lw.fit1 (a, m) s) hl2)
          have rb := OK.out _ (List.getElem_mem hl2)
          obtain ⟨⟨b, q⟩, hs⟩ : ∃ s, L[j] = s := ⟨_, rfl⟩
          rw [hs] at c0 c1 N2 D2 rb
          simp only at c0 c1 N2 D2 rb
          obtain ⟨q0, q1, b0, b1⟩ := rb
          clear hs g0 g1 D0
          have G1 := fun w => GC.out m q w m0 m1 q0 q1
          have gb := GB.out m q m0 m1
          have F1 : Lw.fit1 (a, m) (b, q) = decide ((a - b) % Lw.gcdI m q = 0) := rfl
          have gb : 1 ≤ Lw.gcdI m q ∧ Lw.gcdI m q ≤ 1048576 := gb
          obtain ⟨g, hg⟩ : ∃ g, Lw.gcdI m q = g := ⟨_, rfl⟩
          rw [hg] at G1 gb F1
          replace G1 := Lib.hid G1
          obtain ⟨gb0, gb1⟩ := gb
          have M1 := fun w => ref_Mod (a - b) g w (by omega) (by omega)
          clear hg
          by_cases hz : (a - b) % g = 0
          · rw [decide_eq_true hz] at F1
            have N3 := Lib.hid (N2.out F1)
            rw [hz] at M1
            replace M1 := Lib.hid M1
            clear N2 D2 F1 hz
            go_wp2
            go_quiet ((first | (go_at_call 34; with_reducible exact Lw.quiet (G1.out _)) | (go_at_call 31; with_reducible exact Lw.quiet (M1.out _))))
            go_wp2
            go_roundw
            case rel => exact ⟨j + 1, by omega, by go_num, N3, Lw.bdrewN (Lw.balloc hB2 _) _⟩
            case measure => simp [intOf]; omega
          · rw [decide_eq_false hz] at F1
            have N3 := Lib.hid (D.out (D2.out F1))
            have hz1 : ((a - b) % g == 0) = false := by simpa using hz
            obtain ⟨z, hz2⟩ : ∃ z, (a - b) % g = z := ⟨_, rfl⟩
            rw [hz2] at M1 hz1
            replace M1 := Lib.hid M1
            clear N2 D2 F1 hz hz2
            go_wp2
            go_quiet ((first | (go_at_call 34; with_reducible exact Lw.quiet (G1.out _)) | (go_at_call 31; with_reducible exact Lw.quiet (M1.out _))))
            go_wp2
            go_ret
            exact ⟨Lw.ret_bool (by rw [Lw.fitB_eq, N3.out]), Lw.bdrewN (Lw.balloc (Lw.bt hBV hB2) _) _⟩
        · have hk : L.take j = L := List.take_of_length_le (by rw [HL.out]; omega)
          have T0 := TJ.out
          rw [hk] at T0
          have N1 := Lib.hid (N.out T0)
          clear hk T0 D0
          go_wp2
          go_roundw
          case rel => exact ⟨k + 1, by omega, by go_num, N1, Lw.bt hBV hB2⟩
          case measure => simp [intOf]; omega
    · have hk : L.take k = L := List.take_of_length_le (by rw [HL.out]; omega)
      have T0 := TK.out
      rw [hk] at T0
      have E : Hid (Lw.fitB L = true) := T0
      clear hk T0
      go_wp2
      go_ret
      exact ⟨Lw.ret_bool E.out.symm, hB⟩
end Go.Proofs.Ytoignifimgioaaa

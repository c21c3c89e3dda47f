/- The reference's JoinCheck and Join walked. -/
import Derived.Test.YtlgegdmnbhoepaaShj
import Derived.Test.YtlgegdmnbhoepaaPlx
import Derived.Test.YtlgegdmnbhoepaaPlq
import Derived.Test.YtlgegdmnbhoepaaPad
set_option linter.unusedVariables false
set_option linter.unusedSimpArgs false
namespace Go.Proofs.Ytlgegdmnbhoepaa
open Go.RowKit
set_option maxRecDepth 100000 in
set_option maxHeartbeats 4000000 in
theorem ref_Join (p : Int) (A : Option Addr) (n c : Nat) (L : List Lw.PtT) (w : World) (R : Lw.Rd w 2 A n (Lw.pairsV .i64 .i64 L)) (p1 : 2 ≤ p) (p2 : p ≤ 251) (pp : Lw.primeB p = true) (h13 : L.length ≤ 13) (hL : Lw.PtsOk p L) :
    Calls Try.prog 37 #[.int .i64 p, .slice A n c] w fun e w' => e = .returned (.int .i64 (Lw.jnS p L L.length)) ∧ Below w.heap.size w w' := by
  have lL := Lw.pairsV_len R
  have BD := Lib.hid (fun k hk => hL.bd (k := k) hk)
  have NE := Lib.hid (fun i j (hi : i < L.length) (hj : j < L.length) (e : j ≠ i) => hL.ne hj hi e)
  have IV := Lib.hid (fun x (x0 : 0 < x) (x1 : x < p) w => ref_inverse x p w pp (by omega) x0 x1)
  have IB := Lib.hid (fun a (h1 : 0 < a) (h2 : a < p) => (Lw.inv_prime (p := p) (b := a) pp (by omega) h1 h2).2)
  have KB := Lib.hid (fun i (hi : i < L.length) j => Lw.jnK_bd (p := p) (by omega) (hL.bd hi).2 j)
  have SB := Lib.hid (fun k => Lw.jnS_bd (p := p) (L := L) (by omega) k)
  have LL := Lib.hid lL
  have n13 : n ≤ 13 := by omega
  have R := Lib.hid R
  have hp0 : ¬ p = 0 := by omega
  clear hL pp lL h13
  go_enter Try.func37, Try.ntmps37
  go_wp2_with fail
  go_loopw [5, 6, 7, 8] (fun sv iv kv jv wr => ∃ (i : Nat), iv = .int .i64 (i : Int) ∧ i ≤ n ∧ sv = .int .i64 (Lw.jnS p L i) ∧ Below w.heap.size w wr) (fun _ iv _ _ _ => n - (intOf iv).toNat)
  case atStart => exact ⟨0, rfl, by omega, rfl, Below.refl _ _⟩
  case round =>
    obtain ⟨i, rfl, hi, rfl, hB⟩ := hrel
    obtain ⟨W0, hW0⟩ : ∃ W0, W0 = wr := ⟨_, rfl⟩
    subst hW0
    by_cases hlt : i < n
    · have hl : i < L.length := by rw [LL.out]; exact hlt
      obtain ⟨g0, g1⟩ := Lw.pairsV_get (k := .i64) (l := .i64) hl
      obtain ⟨ad, rfl, had, d0, d1⟩ := (R.out.below (Nat.le_refl _) hB).at2 hlt g0 g1
      rw [← Lw.ptG_at hl] at d0 d1
      have K0 : Hid (Lw.jnK p L i 0 = (Lw.ptG L i).2) := Lib.hid rfl
      have hlt' : (i : Int) < (n : Int) := by omega
      have NXT : Hid (Lw.jnS p L (i + 1) = (Lw.jnS p L i + Lw.jnK p L i n) % p) := Lib.hid (by rw [← LL.out]; rfl)
      obtain ⟨s0, s1⟩ := SB.out i
      generalize Lw.jnS p L i = s at *
      obtain ⟨⟨x0, x1⟩, y0, y1⟩ := BD.out i hl
      obtain ⟨⟨x, y⟩, hx⟩ : ∃ z, Lw.ptG L i = z := ⟨_, rfl⟩
      rw [hx] at d0 d1 K0 x0 x1
      simp only at d0 d1 K0 x0 x1
      have HX := Lib.hid hx
      clear hx g0 g1 y0 y1 SB
      go_wp2_with fail
      go_loopw [7, 8] (fun kv jv wr => ∃ (j : Nat), jv = .int .i64 (j : Int) ∧ j ≤ n ∧ kv = .int .i64 (Lw.jnK p L i j) ∧ Below W0.heap.size W0 wr) (fun _ jv _ => n - (intOf jv).toNat)
      case atStart => exact ⟨0, rfl, by omega, by rw [K0.out], Below.refl _ _⟩
      case round =>
        obtain ⟨j, rfl, hj, rfl, hZ⟩ := hrel
        by_cases hjl : j < n
        · have hjl' : (j : Int) < (n : Int) := by omega
          have jl : j < L.length := by rw [LL.out]; exact hjl
          by_cases e : j = i
          · have zb : ((j : Int) != (i : Int)) = false := by simp; omega
            have LN : Hid (Lw.jnK p L i (j + 1) = Lw.jnK p L i j) := Lib.hid (if_pos e)
            clear KB NE IV IB BD
            go_wp2_with fail
            go_roundw
            case rel => exact ⟨j + 1, by go_num, by omega, by rw [LN.out], hZ⟩
            case measure => simp [intOf]; omega
          · have zb : ((j : Int) != (i : Int)) = true := by simp; omega
            have LN : Hid (Lw.jnK p L i (j + 1) = Lw.jnK p L i j * (Lw.ptG L j).1 % p * Lw.invR (((Lw.ptG L j).1 - (Lw.ptG L i).1) % p) p % p) := Lib.hid (if_neg e)
            obtain ⟨k0, k1⟩ := KB.out i hl j
            have ne := NE.out i j hl jl e
            have xb := (BD.out j jl).1
            obtain ⟨g0, g1⟩ := Lw.pairsV_get (k := .i64) (l := .i64) jl
            obtain ⟨af, e1, haf, f0, f1⟩ := (R.out.below (Nat.le_refl _) (Lw.bt hB hZ)).at2 hjl g0 g1
            injection e1 with e1
            subst e1
            rw [← Lw.ptG_at jl] at f0
            rw [HX.out] at ne LN
            have d0' : wr.cell? (ad.add (i * 2)) = some (.int .i64 x) := (hZ.cell (p := ad.add (i * 2)) (by rw [Lw.add_block]; exact had)).trans d0
            have bl1 : (ad.add (i * 2)).block < wr.heap.size := by rw [Lw.add_block]; exact haf
            have bl2 : (ad.add (j * 2)).block < wr.heap.size := by rw [Lw.add_block]; exact haf
            generalize Lw.jnK p L i j = κ at *
            obtain ⟨⟨u, v⟩, hu⟩ : ∃ z, Lw.ptG L j = z := ⟨_, rfl⟩
            rw [hu] at f0 ne LN xb
            simp only at f0 ne LN xb
            obtain ⟨u0, u1⟩ := xb
            have a0 := Int.emod_nonneg (u - x) hp0
            have a1 := Int.emod_lt_of_pos (u - x) (by omega : 0 < p)
            have MD := Lib.hid (fun w => ref_Mod (u - x) p w (by omega) (by omega))
            obtain ⟨t, ht⟩ : ∃ t, (u - x) % p = t := ⟨_, rfl⟩
            rw [ht] at a0 a1 MD ne LN
            have IVV := Lib.hid (fun w => IV.out t (by omega) a1 w)
            obtain ⟨v0, v1⟩ := IB.out t (by omega) a1
            have w1' : IntKind.i64.wrap (u - x) = u - x := by rw [IntKind.wrap_i64]; omega
            obtain ⟨m0, m1⟩ := Lw.mul_bd' κ u 251 k0 (by omega) u0 (by omega)
            have e1 : IntKind.i64.wrap (κ * u) = κ * u := by rw [IntKind.wrap_i64]; omega
            have e2 : (κ * u).tmod p = κ * u % p := Int.tmod_eq_emod_of_nonneg m0
            have r0 := Int.emod_nonneg (κ * u) hp0
            have r1 := Int.emod_lt_of_pos (κ * u) (by omega : 0 < p)
            generalize κ * u % p = q at *
            generalize Lw.invR t p = ii at *
            obtain ⟨m2, m3⟩ := Lw.mul_bd' q ii 251 r0 (by omega) v0 (by omega)
            have e3 : IntKind.i64.wrap (q * ii) = q * ii := by rw [IntKind.wrap_i64]; omega
            have e4 : (q * ii).tmod p = q * ii % p := Int.tmod_eq_emod_of_nonneg m2
            clear m0 m1 m2 m3 r0 r1 v0 v1 a0 a1 ht u0 u1 k0 k1 ne g0 g1 f1 hu KB NE IV IB BD
            go_wp2_with fail
            refine wp_region_held_drew (S := Lw.Sm wr) (by kernel_rfl) (Lw.sm_drew wr) (fun hHeld => ?_)
            (refine Lw.take1 (i := 0) (v := ?_) rfl (by kernel_rfl) (by kernel_rfl) (by kernel_rfl) (fun _ _ _ h => h) (Or.inl ⟨by rfl, ?_⟩) (by assumption) ?_; rotate_left 1; (focus (intro wS hSw; obtain ⟨hS1, hS2, hS3, hS4⟩ := hSw; go_simp <;> with_reducible rfl)); (try simp only [Act.put, List.setIfInBounds_toArray, List.set_cons_zero, List.set_cons_succ]))
            (refine Lw.take1 (i := 1) (v := ?_) rfl (by kernel_rfl) (by kernel_rfl) (by kernel_rfl) (fun _ _ _ h => h) (Or.inl ⟨by rfl, ?_⟩) (by assumption) ?_; rotate_left 1; (focus (intro wS hSw; obtain ⟨hS1, hS2, hS3, hS4⟩ := hSw; go_simp <;> with_reducible rfl)); (try simp only [Act.put, List.setIfInBounds_toArray, List.set_cons_zero, List.set_cons_succ]))
            (refine Lw.take1 (i := 2) (v := ?_) rfl (by kernel_rfl) (by kernel_rfl) (by kernel_rfl) (fun _ _ _ h => h) (Or.inl ⟨by rfl, ?_⟩) (by assumption) ?_; rotate_left 1; (focus (intro wS hSw; obtain ⟨hS1, hS2, hS3, hS4⟩ := hSw; go_simp <;> with_reducible rfl)); (try simp only [Act.put, List.setIfInBounds_toArray, List.set_cons_zero, List.set_cons_succ]))
            (refine Lw.take1 (i := 3) (v := ?_) rfl (by kernel_rfl) (by kernel_rfl) (by kernel_rfl) (fun _ _ _ h => h) (Or.inl ⟨by rfl, ?_⟩) (by assumption) ?_; rotate_left 1; (focus (intro wS hSw; obtain ⟨hS1, hS2, hS3, hS4⟩ := hSw; go_simp <;> with_reducible rfl)); (try simp only [Act.put, List.setIfInBounds_toArray, List.set_cons_zero, List.set_cons_succ]))
            (refine Lw.take1 (i := 4) (v := ?_) rfl (by kernel_rfl) (by kernel_rfl) (by kernel_rfl) (fun _ _ _ h => h) (Or.inl ⟨by rfl, ?_⟩) (by assumption) ?_; rotate_left 1; (focus (intro wS hSw; obtain ⟨hS1, hS2, hS3, hS4⟩ := hSw; go_simp <;> with_reducible rfl)); (try simp only [Act.put, List.setIfInBounds_toArray, List.set_cons_zero, List.set_cons_succ]))
            (refine Lw.take1 (i := 5) (v := ?_) rfl (by kernel_rfl) (by kernel_rfl) (by kernel_rfl) (fun _ _ _ h => h) (Or.inl ⟨by rfl, ?_⟩) (by assumption) ?_; rotate_left 1; (focus (intro wS hSw; obtain ⟨hS1, hS2, hS3, hS4⟩ := hSw; go_simp <;> with_reducible rfl)); (try simp only [Act.put, List.setIfInBounds_toArray, List.set_cons_zero, List.set_cons_succ]))
            (refine Lw.take1 (i := 6) (v := ?_) rfl (by kernel_rfl) (by kernel_rfl) (by kernel_rfl) (fun _ _ _ h => h) (Or.inl ⟨by rfl, ?_⟩) (by assumption) ?_; rotate_left 1; (focus (intro wS hSw; obtain ⟨hS1, hS2, hS3, hS4⟩ := hSw; go_simp <;> with_reducible rfl)); (try simp only [Act.put, List.setIfInBounds_toArray, List.set_cons_zero, List.set_cons_succ]))
            (refine Lw.take1 (i := 7) (v := ?_) rfl (by kernel_rfl) (by kernel_rfl) (by kernel_rfl) (fun _ _ _ h => h) (Or.inl ⟨by rfl, ?_⟩) (by assumption) ?_; rotate_left 1; (focus (intro wS hSw; obtain ⟨hS1, hS2, hS3, hS4⟩ := hSw; go_simp <;> with_reducible rfl)); (try simp only [Act.put, List.setIfInBounds_toArray, List.set_cons_zero, List.set_cons_succ]))
            (refine Lw.take1 (i := 8) (v := ?_) rfl (by kernel_rfl) (by kernel_rfl) (by kernel_rfl) (fun _ _ _ h => h) (Or.inl ⟨by rfl, ?_⟩) (by assumption) ?_; rotate_left 1; (focus (intro wS hSw; obtain ⟨hS1, hS2, hS3, hS4⟩ := hSw; go_simp <;> with_reducible rfl)); (try simp only [Act.put, List.setIfInBounds_toArray, List.set_cons_zero, List.set_cons_succ]))
            (refine Lw.take1 (i := 9) (v := ?_) rfl (by kernel_rfl) (by kernel_rfl) (by kernel_rfl) (fun _ _ _ h => h) (Or.inl ⟨by rfl, ?_⟩) (by assumption) ?_; rotate_left 1; (focus (intro wS hSw; obtain ⟨hS1, hS2, hS3, hS4⟩ := hSw; go_simp <;> with_reducible rfl)); (try simp only [Act.put, List.setIfInBounds_toArray, List.set_cons_zero, List.set_cons_succ]))
            (refine Lw.take1 (i := 10) (v := ?_) rfl (by kernel_rfl) (by kernel_rfl) (by kernel_rfl) (fun _ _ _ h => h) (Or.inl ⟨by rfl, ?_⟩) (by assumption) ?_; rotate_left 1; (focus (intro wS hSw; obtain ⟨hS1, hS2, hS3, hS4⟩ := hSw; go_simp <;> with_reducible rfl)); (try simp only [Act.put, List.setIfInBounds_toArray, List.set_cons_zero, List.set_cons_succ]))
            (refine Lw.take1 (i := 11) (v := ?_) rfl (by kernel_rfl) (by kernel_rfl) (by kernel_rfl) (fun _ _ _ h => h) (Or.inl ⟨by rfl, ?_⟩) (by assumption) ?_; rotate_left 1; (focus (intro wS hSw; obtain ⟨hS1, hS2, hS3, hS4⟩ := hSw; go_simp <;> with_reducible rfl)); (try simp only [Act.put, List.setIfInBounds_toArray, List.set_cons_zero, List.set_cons_succ]))
            (refine Lw.take1 (i := 12) (v := ?_) rfl (by kernel_rfl) (by kernel_rfl) (by kernel_rfl) (fun _ _ _ h => h) (Or.inl ⟨by rfl, ?_⟩) (by assumption) ?_; rotate_left 1; (focus (intro wS hSw; obtain ⟨hS1, hS2, hS3, hS4⟩ := hSw; go_simp <;> with_reducible rfl)); (try simp only [Act.put, List.setIfInBounds_toArray, List.set_cons_zero, List.set_cons_succ]))
            (refine Lw.take1 (i := 13) (v := ?_) rfl (by kernel_rfl) (by kernel_rfl) (by kernel_rfl) (fun _ _ _ h => h) (Or.inl ⟨by rfl, ?_⟩) (by assumption) ?_; rotate_left 1; (focus (intro wS hSw; obtain ⟨hS1, hS2, hS3, hS4⟩ := hSw; go_simp <;> with_reducible rfl)); (try simp only [Act.put, List.setIfInBounds_toArray, List.set_cons_zero, List.set_cons_succ]))
            (refine Lw.take1 (i := 14) (v := ?_) rfl (by kernel_rfl) (by kernel_rfl) (by kernel_rfl) (fun _ _ _ h => h) (Or.inl ⟨by rfl, ?_⟩) (by assumption) ?_; rotate_left 1; (focus (intro wS hSw; obtain ⟨hS1, hS2, hS3, hS4⟩ := hSw; go_simp <;> with_reducible rfl)); (try simp only [Act.put, List.setIfInBounds_toArray, List.set_cons_zero, List.set_cons_succ]))
            (refine Lw.take1 (i := 15) (v := ?_) rfl (by kernel_rfl) (by kernel_rfl) (by kernel_rfl) (fun _ _ _ h => h) (Or.inl ⟨by rfl, ?_⟩) (by assumption) ?_; rotate_left 1; (focus (intro wS hSw; obtain ⟨hS1, hS2, hS3, hS4⟩ := hSw; go_simp <;> with_reducible rfl)); (try simp only [Act.put, List.setIfInBounds_toArray, List.set_cons_zero, List.set_cons_succ]))
            (refine Lw.take1 (i := 16) (v := ?_) rfl (by kernel_rfl) (by kernel_rfl) (by kernel_rfl) (fun _ _ _ h => h) (Or.inl ⟨by rfl, ?_⟩) (by assumption) ?_; rotate_left 1; (focus (intro wS hSw; obtain ⟨hS1, hS2, hS3, hS4⟩ := hSw; go_simp <;> with_reducible rfl)); (try simp only [Act.put, List.setIfInBounds_toArray, List.set_cons_zero, List.set_cons_succ]))
            (refine Lw.take1 (i := 17) (v := ?_) rfl (by kernel_rfl) (by kernel_rfl) (by kernel_rfl) (fun _ _ _ h => h) (Or.inl ⟨by rfl, ?_⟩) (by assumption) ?_; rotate_left 1; (focus (intro wS hSw; obtain ⟨hS1, hS2, hS3, hS4⟩ := hSw; go_simp <;> with_reducible rfl)); (try simp only [Act.put, List.setIfInBounds_toArray, List.set_cons_zero, List.set_cons_succ]))
            (refine Lw.take1 (i := 18) (v := ?_) rfl (by kernel_rfl) (by kernel_rfl) (by kernel_rfl) (fun _ _ _ h => h) (Or.inl ⟨by rfl, ?_⟩) (by assumption) ?_; rotate_left 1; (focus (intro wS hSw; obtain ⟨hS1, hS2, hS3, hS4⟩ := hSw; go_simp <;> with_reducible rfl)); (try simp only [Act.put, List.setIfInBounds_toArray, List.set_cons_zero, List.set_cons_succ]))
            (refine Lw.take1 (i := 19) (v := ?_) rfl (by kernel_rfl) (by kernel_rfl) (by kernel_rfl) (fun _ _ _ h => h) (Or.inl ⟨by rfl, ?_⟩) (by assumption) ?_; rotate_left 1; (focus (intro wS hSw; obtain ⟨hS1, hS2, hS3, hS4⟩ := hSw; go_simp <;> with_reducible rfl)); (try simp only [Act.put, List.setIfInBounds_toArray, List.set_cons_zero, List.set_cons_succ]))
            (refine Lw.take1 (i := 20) (v := ?_) rfl (by kernel_rfl) (by kernel_rfl) (by kernel_rfl) (fun _ _ _ h => h) (Or.inl ⟨by rfl, ?_⟩) (by assumption) ?_; rotate_left 1; (focus (intro wS hSw; obtain ⟨hS1, hS2, hS3, hS4⟩ := hSw; go_simp <;> with_reducible rfl)); (try simp only [Act.put, List.setIfInBounds_toArray, List.set_cons_zero, List.set_cons_succ]))
            (refine Lw.take1 (i := 22) (v := ?_) rfl (by kernel_rfl) (by kernel_rfl) (by kernel_rfl) (fun _ _ _ h => h) (Or.inl ⟨by rfl, ?_⟩) (by assumption) ?_; rotate_left 1; (focus (intro wS hSw; obtain ⟨hS1, hS2, hS3, hS4⟩ := hSw; go_simp <;> with_reducible rfl)); (try simp only [Act.put, List.setIfInBounds_toArray, List.set_cons_zero, List.set_cons_succ]))
            (refine Lw.take1 (i := 25) (v := ?_) rfl (by kernel_rfl) (by kernel_rfl) (by kernel_rfl) (fun _ _ _ h => h) (Or.inl ⟨by rfl, ?_⟩) (by assumption) ?_; rotate_left 1; (focus (intro wS hSw; obtain ⟨hS1, hS2, hS3, hS4⟩ := hSw; go_simp <;> with_reducible rfl)); (try simp only [Act.put, List.setIfInBounds_toArray, List.set_cons_zero, List.set_cons_succ]))
            (refine wpAnyH_ready (rs := [21]) (by kernel_rfl) (by simp) ?_; refine Lw.cons1 (i := 21) rfl (fun K hK => ?_) AllReadyH.nil; go_simp; go_at_call 64; (with_reducible refine (MD.out _).mono ?_); rintro e w' ⟨rfl, rfl⟩; refine hK.out _ _ ?_ (fun hHeld => ?_); (focus exact Lw.sm_drew wr); clear hK K; (try simp only [Act.put, List.setIfInBounds_toArray, List.set_cons_zero, List.set_cons_succ]))
            (refine wpAnyH_ready (rs := [23]) (by kernel_rfl) (by simp) ?_; refine Lw.cons1 (i := 23) rfl (fun K hK => ?_) AllReadyH.nil; go_simp; go_at_call 82; (with_reducible refine (IVV.out _).mono ?_); rintro e w' ⟨rfl, rfl⟩; refine hK.out _ _ ?_ (fun hHeld => ?_); (focus exact Lw.sm_drew wr); clear hK K; (try simp only [Act.put, List.setIfInBounds_toArray, List.set_cons_zero, List.set_cons_succ]))
            (refine Lw.take1 (i := 24) (v := ?_) rfl (by kernel_rfl) (by kernel_rfl) (by kernel_rfl) (fun _ _ _ h => h) (Or.inl ⟨by rfl, ?_⟩) (by assumption) ?_; rotate_left 1; (focus (intro wS hSw; obtain ⟨hS1, hS2, hS3, hS4⟩ := hSw; go_simp <;> with_reducible rfl)); (try simp only [Act.put, List.setIfInBounds_toArray, List.set_cons_zero, List.set_cons_succ]))
            (refine Lw.take1 (i := 26) (v := ?_) rfl (by kernel_rfl) (by kernel_rfl) (by kernel_rfl) (fun _ _ _ h => h) (Or.inl ⟨by rfl, ?_⟩) (by assumption) ?_; rotate_left 1; (focus (intro wS hSw; obtain ⟨hS1, hS2, hS3, hS4⟩ := hSw; go_simp <;> with_reducible rfl)); (try simp only [Act.put, List.setIfInBounds_toArray, List.set_cons_zero, List.set_cons_succ]))
            (refine Lw.take1 (i := 27) (v := ?_) rfl (by kernel_rfl) (by kernel_rfl) (by kernel_rfl) (fun _ _ _ h => h) (Or.inl ⟨by rfl, ?_⟩) (by assumption) ?_; rotate_left 1; (focus (intro wS hSw; obtain ⟨hS1, hS2, hS3, hS4⟩ := hSw; go_simp <;> with_reducible rfl)); (try simp only [Act.put, List.setIfInBounds_toArray, List.set_cons_zero, List.set_cons_succ]))
            refine wpAnyH_done (by kernel_rfl) ?_ _
            have hS := Lw.sm_drew wr
            go_wp2_with fail
            go_roundw
            case rel => exact ⟨j + 1, by go_num, by omega, by rw [LN.out], Lw.bt hZ (Lw.sm_bel hS)⟩
            case measure => simp [intOf]; omega
        · have hjn : j = n := by omega
          subst hjn
          obtain ⟨k0, k1⟩ := KB.out i hl j
          have e5 : IntKind.i64.wrap (s + Lw.jnK p L i j) = s + Lw.jnK p L i j := by rw [IntKind.wrap_i64]; omega
          have e6 : (s + Lw.jnK p L i j).tmod p = (s + Lw.jnK p L i j) % p := Int.tmod_eq_emod_of_nonneg (by omega)
          clear KB NE IV IB BD
          go_wp2_with fail
          go_roundw
          case rel => exact ⟨i + 1, by go_num, by omega, by rw [NXT.out], Lw.bt hB hZ⟩
          case measure => simp [intOf]; omega
    · have hin : i = n := by omega
      subst hin
      go_wp2_with fail
      go_ret
      exact ⟨by rw [LL.out]; rfl, hB⟩
end Go.Proofs.Ytlgegdmnbhoepaa

/- The reference's Through: Lagrange's way walked. -/
import Derived.Test.YtjhjppaabmbbbaaPlx
import Derived.Test.YtjhjppaabmbbbaaPlq
set_option linter.unusedVariables false
set_option linter.unusedSimpArgs false
namespace Go.Proofs.Ytjhjppaabmbbbaa
open Go.RowKit
set_option maxRecDepth 100000 in
set_option maxHeartbeats 4000000 in
theorem ref_Through (p : Int) (A : Option Addr) (n c : Nat) (L : List Lw.PtT) (w : World) (R : Lw.Rd w 2 A n (Lw.pairsV .i64 .i64 L)) (h0 : Lw.ptsE p L = 0) :
    Calls Try.prog 40 #[.int .i64 p, .slice A n c] w (Lw.RetL (Lw.sst p L L.length) w) := by
  obtain ⟨hp, h13, hL⟩ := Lw.pts_ok h0
  obtain ⟨p1, p2, pp⟩ := Lw.ppr_ok hp
  have lL := Lw.pairsV_len R
  have BD := Lib.hid (fun k hk => hL.bd (k := k) hk)
  have LA := Lib.hid (fun i (hi : i < L.length) j hj => Lw.lag_all p1 p2 pp hL hi j hj)
  have SA := Lib.hid (fun k hk => Lw.sum_all p1 p2 pp hL k hk)
  have FB := Lib.hid (fun i j (hi : i < L.length) (hj : j < L.length) (e : j ≠ i) => Lw.lsF_bd p1 p2 pp hL hi hj e)
  have KB := Lib.hid (fun i j (hi : i < L.length) (hj : j < L.length) (e : j ≠ i) => (Lw.lsK_ok p1 p2 pp hL hi hj e).2)
  have NE := Lib.hid (fun i j (hi : i < L.length) (hj : j < L.length) (e : j ≠ i) => hL.ne hi hj (fun h => e h.symm))
  have IV := Lib.hid (fun x (x0 : 0 < x) (x1 : x < p) w => ref_inverse x p w pp (by omega) x0 x1)
  have LL := Lib.hid lL
  have n13 : n ≤ 13 := by omega
  have R := Lib.hid R
  have hp0 : ¬ p = 0 := by omega
  clear h0 hp hL pp lL h13
  go_enter Try.func40, Try.ntmps40
  go_wp2_with fail
  go_loopw [5, 6, 7, 8, 9] (fun sv iv ov jv kv wr => ∃ (i : Nat) (A1 : Option Addr) (n1 c1 : Nat), iv = .int .i64 (i : Int) ∧ i ≤ n ∧ sv = .slice A1 n1 c1 ∧ n1 ≤ c1 ∧ Hid (Lw.Rd wr 1 A1 n1 (Lw.intsV .i64 (Lw.sst p L i))) ∧ Below w.heap.size w wr) (fun _ iv _ _ _ _ => n - (intOf iv).toNat)
  case atStart => exact ⟨0, none, 0, 0, rfl, by omega, rfl, Nat.le_refl _, Lw.Rd.nil _ _ _, Below.refl _ _⟩
  case round =>
    obtain ⟨i, A1, n1, c1, rfl, hi, rfl, nc1, RS, hB⟩ := hrel
    obtain ⟨W0, hW0⟩ : ∃ W0, W0 = wr := ⟨_, rfl⟩
    subst hW0
    by_cases hlt : i < n
    · have hl : i < L.length := by rw [LL.out]; exact hlt
      obtain ⟨g0, g1⟩ := Lw.pairsV_get (k := .i64) (l := .i64) hl
      obtain ⟨ad, rfl, had, d0, d1⟩ := (R.out.below (Nat.le_refl _) hB).at2 hlt g0 g1
      rw [← Lw.ptG_at hl] at d0 d1
      have L0 : Hid (Lw.lst p L i 0 = [(Lw.ptG L i).2]) := Lib.hid rfl
      have hlt' : (i : Int) < (n : Int) := by omega
      have NXT : Hid (Lw.sst p L (i + 1) = Lw.plusL p (Lw.sst p L i) (Lw.trimL (Lw.lst p L i n)) 1 0) := Lib.hid (by rw [← LL.out]; rfl)
      obtain ⟨s1, _⟩ := SA.out i (by omega)
      have ls : (Lw.sst p L i).length = n1 := by have := RS.out.1; simpa [Lw.intsV] using this
      have lls := (SA.out i (by omega)).2.1
      generalize Lw.sst p L i = ss at *
      have S1 := Lib.hid s1
      have LS := Lib.hid ls
      have nn1 : n1 ≤ 13 := by have := LL.out; omega
      obtain ⟨⟨x0, x1⟩, y0, y1⟩ := BD.out i hl
      obtain ⟨⟨x, y⟩, hx⟩ : ∃ z, Lw.ptG L i = z := ⟨_, rfl⟩
      rw [hx] at d0 d1 L0 x0 x1
      simp only at d0 d1 L0 x0 x1
      have HX := Lib.hid hx
      have hB1 : Below W0.heap.size W0 (W0.alloc (.cells #[.int .i64 y] 2)) := Lw.balloc (Below.refl _ _) _
      have R0 : Hid (Lw.Rd (W0.alloc (.cells #[.int .i64 y] 2)) 1 (some ⟨W0.heap.size, 0, none⟩) 1 (Lw.intsV .i64 (Lw.lst p L i 0))) := Lib.hid (by rw [L0.out]; exact Lw.Rd.lit (Lw.blk_new' (by simp) _ _) rfl rfl)
      clear hx g0 g1 s1 ls lls SA y0 y1
      go_wp2_with fail
      go_loopw [7, 8, 9] (fun ov jv kv wr => ∃ (j : Nat) (A2 : Option Addr) (n2 c2 : Nat), jv = .int .i64 (j : Int) ∧ j ≤ n ∧ ov = .slice A2 n2 c2 ∧ n2 ≤ c2 ∧ Hid (Lw.Rd wr 1 A2 n2 (Lw.intsV .i64 (Lw.lst p L i j))) ∧ Below W0.heap.size W0 wr) (fun _ jv _ _ => n - (intOf jv).toNat)
      case atStart => exact ⟨0, _, 1, 1, rfl, by omega, rfl, Nat.le_refl _, R0, hB1⟩
      case round =>
        clear R0 hB1
        obtain ⟨j, A2, n2, c2, rfl, hj, rfl, nc2, RO, hZ⟩ := hrel
        by_cases hjl : j < n
        · have hjl' : (j : Int) < (n : Int) := by omega
          have jl : j < L.length := by rw [LL.out]; exact hjl
          by_cases e : j = i
          · have zb : ((j : Int) == (i : Int)) = true := by simp; omega
            have LN : Hid (Lw.lst p L i (j + 1) = Lw.lst p L i j) := Lib.hid (if_pos e)
            clear LA FB KB NE IV
            go_wp2_with fail
            go_roundw
            case rel => exact ⟨j + 1, A2, n2, c2, by go_num, by omega, rfl, nc2, by rw [LN.out]; exact RO, hZ⟩
            case measure => simp [intOf]; omega
          · have zb : ((j : Int) == (i : Int)) = false := by simp; omega
            have LN : Hid (Lw.lst p L i (j + 1) = Lw.timesK p (Lw.trimL (Lw.lst p L i j)) (Lw.lsF p L i j) (Lw.trimL (Lw.lst p L i j)).length) := Lib.hid (if_neg e)
            have LF : Hid (Lw.trimL [(-(Lw.ptG L j).1 * Lw.lsK p L i j) % p, Lw.lsK p L i j] = Lw.lsF p L i j) := Lib.hid rfl
            have KQ : Hid (Lw.invR (((Lw.ptG L i).1 - (Lw.ptG L j).1) % p) p = Lw.lsK p L i j) := Lib.hid rfl
            obtain ⟨q0, q1, _⟩ := LA.out i hl j (by omega)
            have q2 : (Lw.lst p L i j).length ≤ 14 := by have := LL.out; split at q1 <;> omega
            have fb := FB.out i j hl jl e
            obtain ⟨k0, k1⟩ := KB.out i j hl jl e
            have ne := NE.out i j hl jl e
            have xb := (BD.out j jl).1
            obtain ⟨g0, g1⟩ := Lw.pairsV_get (k := .i64) (l := .i64) jl
            obtain ⟨af, e1, haf, f0, f1⟩ := (R.out.below (Nat.le_refl _) (Lw.bt hB hZ)).at2 hjl g0 g1
            injection e1 with e1
            subst e1
            rw [← Lw.ptG_at jl] at f0
            rw [HX.out] at KQ ne
            have d0' : wr.cell? (ad.add (i * 2)) = some (.int .i64 x) := (hZ.cell (p := ad.add (i * 2)) (by rw [Lw.add_block]; exact had)).trans d0
            have bl1 : (ad.add (i * 2)).block < wr.heap.size := by rw [Lw.add_block]; exact haf
            have bl2 : (ad.add (j * 2)).block < wr.heap.size := by rw [Lw.add_block]; exact haf
            generalize Lw.lst p L i j = lo at *
            generalize Lw.lsK p L i j = κ at *
            generalize Lw.lsF p L i j = fo at *
            obtain ⟨⟨u, v⟩, hu⟩ : ∃ z, Lw.ptG L j = z := ⟨_, rfl⟩
            rw [hu] at f0 KQ ne LF xb
            simp only at f0 KQ ne LF xb
            obtain ⟨u0, u1⟩ := xb
            have a0 := Int.emod_nonneg (x - u) hp0
            have a1 := Int.emod_lt_of_pos (x - u) (by omega : 0 < p)
            have MD := Lib.hid (fun w => ref_Mod (x - u) p w (by omega) (by omega))
            have IVV := Lib.hid (fun w => IV.out ((x - u) % p) (by omega) a1 w)
            rw [KQ.out] at IVV
            generalize (x - u) % p = xu at *
            have M2 := Lib.hid (fun w => ref_Mod (-u * κ) p w (by omega) (by omega))
            have lo2 : lo.length = n2 := by have := RO.out.1; simpa [Lw.intsV] using this
            have T1 := Lib.hid (fun W' (hb : Below wr.heap.size wr W') => ref_trimmed A2 n2 c2 lo W' (RO.out.below (Nat.le_refl _) hb) nc2 (by omega))
            have T2 := Lib.hid (fun W' B (R : Lw.Rd W' 1 B 2 (Lw.intsV .i64 [(-u * κ) % p, κ])) => ref_trimmed B 2 2 [(-u * κ) % p, κ] W' R (Nat.le_refl _) (by omega))
            rw [LF.out] at T2
            have tl := Lw.trim_len lo
            have tb : ∀ z ∈ Lw.trimL lo, 0 ≤ z ∧ z < p := fun z hz => q0 z (Lw.trim_mem hz)
            generalize Lw.trimL lo = tr at *
            have MU := Lib.hid (fun W' C D m d m' d' (RC : Lw.Rd W' 1 C m (Lw.intsV .i64 tr)) (RD : Lw.Rd W' 1 D m' (Lw.intsV .i64 fo)) => ref_Mul p C D m d m' d' tr fo W' RC RD tb fb.1 p1 p2 (by have := RC.1; simp [Lw.intsV] at this; omega) (by have := RD.1; have := fb.2; simp [Lw.intsV] at *; omega))
            rw [← LN.out] at MU
            have w1' : IntKind.i64.wrap (x - u) = x - u := by rw [IntKind.wrap_i64]; omega
            have w2' : IntKind.i64.wrap (-u) = -u := by rw [IntKind.wrap_i64]; omega
            obtain ⟨m0, m1⟩ := Lw.mul_bd' u κ 251 u0 (by omega) k0 (by omega)
            have em : -u * κ = -(u * κ) := by grind
            have w3' : IntKind.i64.wrap (-u * κ) = -u * κ := by rw [IntKind.wrap_i64, em]; omega
            clear m0 m1 em a0 a1 u0 u1 k0 k1 ne fb q0 q1 q2 g0 g1 f1 hu tb tl lo2 LA FB KB NE IV BD
            go_wp2_with fail
            refine wp_region_held_drew (S := Lw.Sm wr) (by kernel_rfl) (Lw.sm_drew wr) (fun hHeld => ?_)
            (refine Lw.take1 (i := 0) (v := ?_) rfl (by kernel_rfl) (by kernel_rfl) (by kernel_rfl) (fun _ _ _ h => h) (Or.inl ⟨by rfl, ?_⟩) (by assumption) ?_; rotate_left 1; (focus (intro wS hSw; obtain ⟨hS1, hS2, hS3, hS4⟩ := hSw; go_simp <;> with_reducible rfl)); (try simp only [Act.put, List.setIfInBounds_toArray, List.set_cons_zero, List.set_cons_succ]))
            (refine Lw.take1 (i := 1) (v := ?_) rfl (by kernel_rfl) (by kernel_rfl) (by kernel_rfl) (fun _ _ _ h => h) (Or.inl ⟨by rfl, ?_⟩) (by assumption) ?_; rotate_left 1; (focus (intro wS hSw; obtain ⟨hS1, hS2, hS3, hS4⟩ := hSw; go_simp <;> with_reducible rfl)); (try simp only [Act.put, List.setIfInBounds_toArray, List.set_cons_zero, List.set_cons_succ]))
            (refine Lw.take1 (i := 2) (v := ?_) rfl (by kernel_rfl) (by kernel_rfl) (by kernel_rfl) (fun _ _ _ h => h) (Or.inl ⟨by rfl, ?_⟩) (by assumption) ?_; rotate_left 1; (focus (intro wS hSw; obtain ⟨hS1, hS2, hS3, hS4⟩ := hSw; go_simp <;> with_reducible rfl)); (try simp only [Act.put, List.setIfInBounds_toArray, List.set_cons_zero, List.set_cons_succ]))
            (refine Lw.take1 (i := 3) (v := ?_) rfl (by kernel_rfl) (by kernel_rfl) (by kernel_rfl) (fun _ _ _ h => h) (Or.inl ⟨by rfl, ?_⟩) (by assumption) ?_; rotate_left 1; (focus (intro wS hSw; obtain ⟨hS1, hS2, hS3, hS4⟩ := hSw; go_simp <;> with_reducible rfl)); (try simp only [Act.put, List.setIfInBounds_toArray, List.set_cons_zero, List.set_cons_succ]))
            (refine Lw.take1 (i := 4) (v := ?_) rfl (by kernel_rfl) (by kernel_rfl) (by kernel_rfl) (fun _ _ _ h => h) (Or.inl ⟨by rfl, ?_⟩) (by assumption) ?_; rotate_left 1; (focus (intro wS hSw; obtain ⟨hS1, hS2, hS3, hS4⟩ := hSw; go_simp <;> with_reducible rfl)); (try simp only [Act.put, List.setIfInBounds_toArray, List.set_cons_zero, List.set_cons_succ]))
            (refine Lw.take1 (i := 5) (v := ?_) rfl (by kernel_rfl) (by kernel_rfl) (by kernel_rfl) (fun _ _ _ h => h) (Or.inl ⟨by rfl, ?_⟩) (by assumption) ?_; rotate_left 1; (focus (intro wS hSw; obtain ⟨hS1, hS2, hS3, hS4⟩ := hSw; go_simp <;> with_reducible rfl)); (try simp only [Act.put, List.setIfInBounds_toArray, List.set_cons_zero, List.set_cons_succ]))
            (refine Lw.take1 (i := 6) (v := ?_) rfl (by kernel_rfl) (by kernel_rfl) (by kernel_rfl) (fun _ _ _ h => h) (Or.inl ⟨by rfl, ?_⟩) (by assumption) ?_; rotate_left 1; (focus (intro wS hSw; obtain ⟨hS1, hS2, hS3, hS4⟩ := hSw; go_simp <;> with_reducible rfl)); (try simp only [Act.put, List.setIfInBounds_toArray, List.set_cons_zero, List.set_cons_succ]))
            (refine Lw.take1 (i := 7) (v := ?_) rfl (by kernel_rfl) (by kernel_rfl) (by kernel_rfl) (fun _ _ _ h => h) (Or.inl ⟨by rfl, ?_⟩) (by assumption) ?_; rotate_left 1; (focus (intro wS hSw; obtain ⟨hS1, hS2, hS3, hS4⟩ := hSw; go_simp <;> with_reducible rfl)); (try simp only [Act.put, List.setIfInBounds_toArray, List.set_cons_zero, List.set_cons_succ]))
            (refine Lw.take1 (i := 8) (v := ?_) rfl (by kernel_rfl) (by kernel_rfl) (by kernel_rfl) (fun _ _ _ h => h) (Or.inl ⟨by rfl, ?_⟩) (by assumption) ?_; rotate_left 1; (focus (intro wS hSw; obtain ⟨hS1, hS2, hS3, hS4⟩ := hSw; go_simp <;> with_reducible rfl)); (try simp only [Act.put, List.setIfInBounds_toArray, List.set_cons_zero, List.set_cons_succ]))
            (refine Lw.take1 (i := 9) (v := ?_) rfl (by kernel_rfl) (by kernel_rfl) (by kernel_rfl) (fun _ _ _ h => h) (Or.inl ⟨by rfl, ?_⟩) (by assumption) ?_; rotate_left 1; (focus (intro wS hSw; obtain ⟨hS1, hS2, hS3, hS4⟩ := hSw; go_simp <;> with_reducible rfl)); (try simp only [Act.put, List.setIfInBounds_toArray, List.set_cons_zero, List.set_cons_succ]))
            (refine Lw.take1 (i := 10) (v := ?_) rfl (by kernel_rfl) (by kernel_rfl) (by kernel_rfl) (fun _ _ _ h => h) (Or.inl ⟨by rfl, ?_⟩) (by assumption) ?_; rotate_left 1; (focus (intro wS hSw; obtain ⟨hS1, hS2, hS3, hS4⟩ := hSw; go_simp <;> with_reducible rfl)); (try simp only [Act.put, List.setIfInBounds_toArray, List.set_cons_zero, List.set_cons_succ]))
            (refine Lw.take1 (i := 11) (v := ?_) rfl (by kernel_rfl) (by kernel_rfl) (by kernel_rfl) (fun _ _ _ h => h) (Or.inl ⟨by rfl, ?_⟩) (by assumption) ?_; rotate_left 1; (focus (intro wS hSw; obtain ⟨hS1, hS2, hS3, hS4⟩ := hSw; go_simp <;> with_reducible rfl)); (try simp only [Act.put, List.setIfInBounds_toArray, List.set_cons_zero, List.set_cons_succ]))
            (refine Lw.take1 (i := 13) (v := ?_) rfl (by kernel_rfl) (by kernel_rfl) (by kernel_rfl) (fun _ _ _ h => h) (Or.inl ⟨by rfl, ?_⟩) (by assumption) ?_; rotate_left 1; (focus (intro wS hSw; obtain ⟨hS1, hS2, hS3, hS4⟩ := hSw; go_simp <;> with_reducible rfl)); (try simp only [Act.put, List.setIfInBounds_toArray, List.set_cons_zero, List.set_cons_succ]))
            (refine wpAnyH_ready (rs := [12]) (by kernel_rfl) (by simp) ?_; refine Lw.cons1 (i := 12) rfl (fun K hK => ?_) AllReadyH.nil; go_simp; go_at_call 84; (with_reducible refine (MD.out _).mono ?_); rintro e w' ⟨rfl, rfl⟩; refine hK.out _ _ ?_ (fun hHeld => ?_); (focus exact Lw.sm_drew wr); clear hK K; (try simp only [Act.put, List.setIfInBounds_toArray, List.set_cons_zero, List.set_cons_succ]))
            (refine wpAnyH_ready (rs := [14]) (by kernel_rfl) (by simp) ?_; refine Lw.cons1 (i := 14) rfl (fun K hK => ?_) AllReadyH.nil; go_simp; go_at_call 83; (with_reducible refine (IVV.out _).mono ?_); rintro e w' ⟨rfl, rfl⟩; refine hK.out _ _ ?_ (fun hHeld => ?_); (focus exact Lw.sm_drew wr); clear hK K; (try simp only [Act.put, List.setIfInBounds_toArray, List.set_cons_zero, List.set_cons_succ]))
            (refine Lw.take1 (i := 15) (v := ?_) rfl (by kernel_rfl) (by kernel_rfl) (by kernel_rfl) (fun _ _ _ h => h) (Or.inl ⟨by rfl, ?_⟩) (by assumption) ?_; rotate_left 1; (focus (intro wS hSw; obtain ⟨hS1, hS2, hS3, hS4⟩ := hSw; go_simp <;> with_reducible rfl)); (try simp only [Act.put, List.setIfInBounds_toArray, List.set_cons_zero, List.set_cons_succ]))
            refine wpAnyH_done (by kernel_rfl) ?_ _
            have hS := Lw.sm_drew' (Lw.sm_drew wr)
            go_wp2_with fail
            refine wp_region_held_drew (S := Lw.Sm wr) (by kernel_rfl) hS (fun hHeld => ?_)
            (refine Lw.take1 (i := 0) (v := ?_) rfl (by kernel_rfl) (by kernel_rfl) (by kernel_rfl) (fun _ _ _ h => h) (Or.inl ⟨by rfl, ?_⟩) (by assumption) ?_; rotate_left 1; (focus (intro wS hSw; obtain ⟨hS1, hS2, hS3, hS4⟩ := hSw; go_simp <;> with_reducible rfl)); (try simp only [Act.put, List.setIfInBounds_toArray, List.set_cons_zero, List.set_cons_succ]))
            (refine Lw.take1 (i := 1) (v := ?_) rfl (by kernel_rfl) (by kernel_rfl) (by kernel_rfl) (fun _ _ _ h => h) (Or.inl ⟨by rfl, ?_⟩) (by assumption) ?_; rotate_left 1; (focus (intro wS hSw; obtain ⟨hS1, hS2, hS3, hS4⟩ := hSw; go_simp <;> with_reducible rfl)); (try simp only [Act.put, List.setIfInBounds_toArray, List.set_cons_zero, List.set_cons_succ]))
            (refine Lw.take1 (i := 3) (v := ?_) rfl (by kernel_rfl) (by kernel_rfl) (by kernel_rfl) (fun _ _ _ h => h) (Or.inl ⟨by rfl, ?_⟩) (by assumption) ?_; rotate_left 1; (focus (intro wS hSw; obtain ⟨hS1, hS2, hS3, hS4⟩ := hSw; go_simp <;> with_reducible rfl)); (try simp only [Act.put, List.setIfInBounds_toArray, List.set_cons_zero, List.set_cons_succ]))
            (refine Lw.take1 (i := 4) (v := ?_) rfl (by kernel_rfl) (by kernel_rfl) (by kernel_rfl) (fun _ _ _ h => h) (Or.inl ⟨by rfl, ?_⟩) (by assumption) ?_; rotate_left 1; (focus (intro wS hSw; obtain ⟨hS1, hS2, hS3, hS4⟩ := hSw; go_simp <;> with_reducible rfl)); (try simp only [Act.put, List.setIfInBounds_toArray, List.set_cons_zero, List.set_cons_succ]))
            (refine Lw.take1 (i := 5) (v := ?_) rfl (by kernel_rfl) (by kernel_rfl) (by kernel_rfl) (fun _ _ _ h => h) (Or.inl ⟨by rfl, ?_⟩) (by assumption) ?_; rotate_left 1; (focus (intro wS hSw; obtain ⟨hS1, hS2, hS3, hS4⟩ := hSw; go_simp <;> with_reducible rfl)); (try simp only [Act.put, List.setIfInBounds_toArray, List.set_cons_zero, List.set_cons_succ]))
            (refine Lw.take1 (i := 6) (v := ?_) rfl (by kernel_rfl) (by kernel_rfl) (by kernel_rfl) (fun _ _ _ h => h) (Or.inl ⟨by rfl, ?_⟩) (by assumption) ?_; rotate_left 1; (focus (intro wS hSw; obtain ⟨hS1, hS2, hS3, hS4⟩ := hSw; go_simp <;> with_reducible rfl)); (try simp only [Act.put, List.setIfInBounds_toArray, List.set_cons_zero, List.set_cons_succ]))
            (refine Lw.take1 (i := 7) (v := ?_) rfl (by kernel_rfl) (by kernel_rfl) (by kernel_rfl) (fun _ _ _ h => h) (Or.inl ⟨by rfl, ?_⟩) (by assumption) ?_; rotate_left 1; (focus (intro wS hSw; obtain ⟨hS1, hS2, hS3, hS4⟩ := hSw; go_simp <;> with_reducible rfl)); (try simp only [Act.put, List.setIfInBounds_toArray, List.set_cons_zero, List.set_cons_succ]))
            (refine Lw.take1 (i := 8) (v := ?_) rfl (by kernel_rfl) (by kernel_rfl) (by kernel_rfl) (fun _ _ _ h => h) (Or.inl ⟨by rfl, ?_⟩) (by assumption) ?_; rotate_left 1; (focus (intro wS hSw; obtain ⟨hS1, hS2, hS3, hS4⟩ := hSw; go_simp <;> with_reducible rfl)); (try simp only [Act.put, List.setIfInBounds_toArray, List.set_cons_zero, List.set_cons_succ]))
            (refine Lw.take1 (i := 9) (v := ?_) rfl (by kernel_rfl) (by kernel_rfl) (by kernel_rfl) (fun _ _ _ h => h) (Or.inl ⟨by rfl, ?_⟩) (by assumption) ?_; rotate_left 1; (focus (intro wS hSw; obtain ⟨hS1, hS2, hS3, hS4⟩ := hSw; go_simp <;> with_reducible rfl)); (try simp only [Act.put, List.setIfInBounds_toArray, List.set_cons_zero, List.set_cons_succ]))
            (refine Lw.take1 (i := 10) (v := ?_) rfl (by kernel_rfl) (by kernel_rfl) (by kernel_rfl) (fun _ _ _ h => h) (Or.inl ⟨by rfl, ?_⟩) (by assumption) ?_; rotate_left 1; (focus (intro wS hSw; obtain ⟨hS1, hS2, hS3, hS4⟩ := hSw; go_simp <;> with_reducible rfl)); (try simp only [Act.put, List.setIfInBounds_toArray, List.set_cons_zero, List.set_cons_succ]))
            (refine Lw.take1 (i := 11) (v := ?_) rfl (by kernel_rfl) (by kernel_rfl) (by kernel_rfl) (fun _ _ _ h => h) (Or.inl ⟨by rfl, ?_⟩) (by assumption) ?_; rotate_left 1; (focus (intro wS hSw; obtain ⟨hS1, hS2, hS3, hS4⟩ := hSw; go_simp <;> with_reducible rfl)); (try simp only [Act.put, List.setIfInBounds_toArray, List.set_cons_zero, List.set_cons_succ]))
            (refine Lw.take1 (i := 13) (v := ?_) rfl (by kernel_rfl) (by kernel_rfl) (by kernel_rfl) (fun _ _ _ h => h) (Or.inl ⟨by rfl, ?_⟩) (by assumption) ?_; rotate_left 1; (focus (intro wS hSw; obtain ⟨hS1, hS2, hS3, hS4⟩ := hSw; go_simp <;> with_reducible rfl)); (try simp only [Act.put, List.setIfInBounds_toArray, List.set_cons_zero, List.set_cons_succ]))
            (refine wpAnyH_ready (rs := [2]) (by kernel_rfl) (by simp) ?_; refine Lw.cons1 (i := 2) rfl (fun K hK => ?_) AllReadyH.nil; go_simp; go_at_call 86; (with_reducible refine (T1.out _ (Lw.sm_bel hS)).mono ?_); rintro e wa ⟨A5, n5, c5, rfl, R5, _, hba⟩; refine hK.out _ _ ?_ (fun hHeld => ?_); (focus exact Lw.sm_keep hS hba); clear hK K; (try simp only [Act.put, List.setIfInBounds_toArray, List.set_cons_zero, List.set_cons_succ]))
            have hSa := Lw.sm_keep hS hba
            (refine wpAnyH_ready (rs := [12]) (by kernel_rfl) (by simp) ?_; refine Lw.cons1 (i := 12) rfl (fun K hK => ?_) AllReadyH.nil; go_simp; go_at_call 84; (with_reducible refine (M2.out _).mono ?_); rintro e w' ⟨rfl, rfl⟩; refine hK.out _ _ ?_ (fun hHeld => ?_); (focus exact hSa); clear hK K; (try simp only [Act.put, List.setIfInBounds_toArray, List.set_cons_zero, List.set_cons_succ]))
            (refine wpAnyH_ready (rs := [14]) (by kernel_rfl) (by simp) ?_; refine Lw.cons1 (i := 14) rfl (fun K hK => ?_) AllReadyH.nil; go_simp; refine hK.out _ _ ?_ (fun hHeld => ?_); (focus exact Lw.sm_of (Lw.balloc (Lw.sm_bel hSa) _)); clear hK K; (try simp only [Act.put, List.setIfInBounds_toArray, List.set_cons_zero, List.set_cons_succ]))
            have RB := Lib.hid (show Lw.Rd (wa.alloc (.cells #[.int .i64 ((-u * κ) % p), .int .i64 κ] 2)) 1 (some ⟨wa.heap.size, 0, none⟩) 2 (Lw.intsV .i64 [(-u * κ) % p, κ]) from Lw.Rd.lit (Lw.blk_new' (by simp) _ _) rfl rfl)
            have hSb := Lw.sm_of (Lw.balloc (Lw.sm_bel hSa) (.cells #[.int .i64 ((-u * κ) % p), .int .i64 κ] 2))
            (refine wpAnyH_ready (rs := [15]) (by kernel_rfl) (by simp) ?_; refine Lw.cons1 (i := 15) rfl (fun K hK => ?_) AllReadyH.nil; go_simp; go_at_call 86; (with_reducible refine (T2.out _ _ RB.out).mono ?_); rintro e wc ⟨A6, n6, c6, rfl, R6, _, hbc⟩; refine hK.out _ _ ?_ (fun hHeld => ?_); (focus exact Lw.sm_keep hSb hbc); clear hK K; (try simp only [Act.put, List.setIfInBounds_toArray, List.set_cons_zero, List.set_cons_succ]))
            have hSc := Lw.sm_keep hSb hbc
            have R5c := Lib.hid (R5.below (Nat.le_refl _) (Lw.bt (Lw.balloc (Below.refl _ _) _) hbc))
            have R6 := Lib.hid R6
            (refine wpAnyH_ready (rs := [16]) (by kernel_rfl) (by simp) ?_; refine Lw.cons1 (i := 16) rfl (fun K hK => ?_) AllReadyH.nil; go_simp; go_at_call 85; (with_reducible refine (MU.out _ _ _ _ _ _ _ R5c.out R6.out).mono ?_); rintro e wd ⟨A7, n7, c7, rfl, R7, nc7, hbd⟩; refine hK.out _ _ ?_ (fun hHeld => ?_); (focus exact Lw.sm_keep hSc hbd); clear hK K; (try simp only [Act.put, List.setIfInBounds_toArray, List.set_cons_zero, List.set_cons_succ]))
            have hSd := Lw.sm_keep hSc hbd
            have R7 := Lib.hid R7
            (refine Lw.take1 (i := 17) (v := ?_) rfl (by kernel_rfl) (by kernel_rfl) (by kernel_rfl) (fun _ _ _ h => h) (Or.inl ⟨by rfl, ?_⟩) (by assumption) ?_; rotate_left 1; (focus (intro wS hSw; obtain ⟨hS1, hS2, hS3, hS4⟩ := hSw; go_simp <;> with_reducible rfl)); (try simp only [Act.put, List.setIfInBounds_toArray, List.set_cons_zero, List.set_cons_succ]))
            refine wpAnyH_done (by kernel_rfl) ?_ _
            go_wp2_with fail
            go_roundw
            case rel => exact ⟨j + 1, A7, n7, c7, by go_num, by omega, rfl, nc7, R7, Lw.bt hZ (Lw.sm_bel hSd)⟩
            case measure => simp [intOf]; omega
        · have hjn : j = n := by omega
          subst hjn
          have lag := (LA.out i hl j (by have := LL.out; omega))
          have lo2 : (Lw.lst p L i j).length = n2 := by have := RO.out.1; simpa [Lw.intsV] using this
          have lol : (Lw.lst p L i j).length ≤ 14 := by have h1 := lag.2.1; have := LL.out; split at h1 <;> omega
          have tb : ∀ z ∈ Lw.trimL (Lw.lst p L i j), 0 ≤ z ∧ z < p := fun z hz => lag.1 z (Lw.trim_mem hz)
          have tl := Lw.trim_len (Lw.lst p L i j)
          clear lag
          generalize Lw.lst p L i j = lo at *
          have T1 := Lib.hid (ref_trimmed A2 n2 c2 lo wr RO.out nc2 (by omega))
          generalize Lw.trimL lo = tr at *
          have AD := Lib.hid (fun W' D m' d' (RA : Lw.Rd W' 1 A1 n1 (Lw.intsV .i64 ss)) (RD : Lw.Rd W' 1 D m' (Lw.intsV .i64 tr)) => ref_Add p A1 D n1 c1 m' d' ss tr W' RA RD S1.out tb p1 p2 (by omega) (by have := RD.1; simp [Lw.intsV] at *; omega))
          rw [← NXT.out] at AD
          clear tb tl lol lo2 LA FB KB NE IV BD
          go_wp2_with fail
          refine T1.out.mono ?_
          rintro e w2 ⟨A3, n3, c3, rfl, R3, _, hb3⟩
          have hB3 := Lw.bt hZ hb3
          have AD3 := Lib.hid (AD.out _ _ _ c3 (RS.out.below (Nat.le_refl _) hB3) R3)
          go_wp2_with fail
          refine AD3.out.mono ?_
          rintro e w3 ⟨A4, n4, c4, rfl, R4, nc4, hb4⟩
          have R4 := Lib.hid R4
          have hB4 := Lw.bt hB (Lw.bt hB3 hb4)
          go_wp2_with fail
          go_roundw
          case rel => exact ⟨i + 1, A4, n4, c4, by go_num, by omega, rfl, nc4, R4, hB4⟩
          case measure => simp [intOf]; omega
    · have hin : i = n := by omega
      subst hin
      rw [← LL.out] at RS
      go_wp2_with fail
      go_ret
      exact ⟨A1, n1, c1, rfl, RS.out, nc1, hB⟩
end Go.Proofs.Ytjhjppaabmbbbaa

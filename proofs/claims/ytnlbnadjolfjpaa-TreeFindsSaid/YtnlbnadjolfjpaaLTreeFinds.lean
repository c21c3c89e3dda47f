/- The law TreeFinds: where two leafs with proofs at one place clash. -/
import Derived.Test.YtnlbnadjolfjpaaTrk
import Derived.Test.YtnlbnadjolfjpaaLTreeChecks
set_option linter.unusedVariables false
namespace Go.Proofs.Ytnlbnadjolfjpaa
open Go.RowKit
namespace LW
set_option maxRecDepth 100000 in
set_option maxHeartbeats 4000000 in
theorem TreeFinds (n i : Int) (A : Option Addr) (l c : Nat) (z2 : List Int) (B : Option Addr) (k d : Nat) (z3 : List Int) (A' : Option Addr) (l' c' : Nat) (z4 : List Int) (B' : Option Addr) (k' d' : Nat) (z5 : List Int) (w : World) (wn : (Lit.int .i64 n).wf = true) (wi : (Lit.int .i64 i).wf = true) (hA : Lw.IsRow .u8 w A l c z2) (hB : Lw.IsRow .u32 w B k d z3) (hA' : Lw.IsRow .u8 w A' l' c' z4) (hB' : Lw.IsRow .u32 w B' k' d' z5) :
    Calls Try.prog 9 #[.int .i64 n, .int .i64 i, .slice A l c, .slice B k d, .slice A' l' c', .slice B' k' d'] w fun e w' => e = .returned (.bool true) ∧ Below w.heap.size w w' := by
  obtain ⟨RA, _, la, _, wA⟩ := hA.rd
  obtain ⟨RB, hkd, _, _, wB⟩ := hB.rd
  obtain ⟨RA', _, la', _, wA'⟩ := hA'.rd
  obtain ⟨RB', hkd', _, _, wB'⟩ := hB'.rd
  have bA := Lw.u8_byt wA
  have bB := Lw.u32_in wB
  have bA' := Lw.u8_byt wA'
  have bB' := Lw.u32_in wB'
  generalize z2.take l = a at *
  generalize z3.take k = ps at *
  generalize z4.take l' = b at *
  generalize z5.take k' = qs at *
  clear wn wi hA hB wA wB hA' hB' wA' wB'
  have PC1 := fun w => ref_PlaceCheck n i A B l k c d w
  have PC2 := fun w => ref_PlaceCheck n i A' B' l' k' c' d' w
  have FF := fun w => law_first (Lw.plcE n i l k) (Lw.plcE n i l' k') w
  by_cases h : Lw.firstI (Lw.plcE n i l k) (Lw.plcE n i l' k') = 0
  · have h1 : Lw.plcE n i l k = 0 := by
      by_cases h0 : Lw.plcE n i l k = 0
      · exact h0
      · rw [Lw.firstI_ne _ _ h0] at h; exact h
    have h2 : Lw.plcE n i l' k' = 0 := by rw [h1, Lw.firstI_zero] at h; exact h
    rw [h] at FF
    rw [h1] at FF PC1
    rw [h2] at FF PC2
    replace PC1 := Lib.hid PC1
    replace PC2 := Lib.hid PC2
    replace FF := Lib.hid FF
    obtain ⟨n1, n2, i0, i1, p3, p4⟩ := Lw.plc_in h1
    obtain ⟨_, _, _, _, p5, p6⟩ := Lw.plc_in h2
    obtain ⟨n, rfl⟩ := Int.eq_ofNat_of_zero_le (by omega : 0 ≤ n)
    obtain ⟨i, rfl⟩ := Int.eq_ofNat_of_zero_le i0
    have XF := Lib.hid (fun hh => tree_Clash_form n i A B A' B' l k l' k' c d c' d' a ps b qs w RA RB bA bB RA' RB' bA' bB' h1 h2 hkd hkd' hh)
    have XN := Lib.hid (fun L M g1 g2 g3 g4 => tree_Clash_none n i A B A' B' l k l' k' c d c' d' a ps b qs w RA RB bA bB RA' RB' bA' bB' h1 h2 hkd hkd' L M g1 g2 g3 g4)
    have XO := Lib.hid (fun L M g1 g2 g3 g4 kk x y g5 g6 g7 g8 g9 => tree_Clash_ok n i A B A' B' l k l' k' c d c' d' a ps b qs w RA RB bA bB RA' RB' bA' bB' h1 h2 hkd hkd' L M g1 g2 g3 g4 kk x y g5 g6 g7 g8 g9)
    have Y1 := Lib.hid (fun W (hb : Below w.heap.size w W) => ref_Lead n i A B l k c d a ps W (RA.below (Nat.le_refl _) hb) (RB.below (Nat.le_refl _) hb) bA bB (by omega) (by omega) p3 p4)
    have Y2 := Lib.hid (fun W (hb : Below w.heap.size w W) => ref_Lead n i A' B' l' k' c' d' b qs W (RA'.below (Nat.le_refl _) hb) (RB'.below (Nat.le_refl _) hb) bA' bB' (by omega) (by omega) p5 p6)
    have EQ := Lib.hid (fun W (hb : Below w.heap.size w W) => ref_Bytes A A' l l' c c' a b W (RA.below (Nat.le_refl _) hb) (RA'.below (Nat.le_refl _) hb) (by omega) (by omega))
    have SHP := Lib.hid (fun L M g1 g2 => Lw.texts_shape (n := n) (i := i) (a := a) (b := b) (ps := ps) (qs := qs) (L := L) (M := M) g1 g2)
    have NE1 := Lib.hid (fun L g => Lw.texts_ne (n := n) (i := i) (leaf := a) (ps := ps) (L := L) bA (by omega) g)
    have NE2 := Lib.hid (fun L g => Lw.texts_ne (n := n) (i := i) (leaf := b) (ps := qs) (L := L) bA' (by omega) g)
    have HD := Lib.hid (fun L g => Lw.texts_head (n := n) (i := i) (leaf := a) (ps := ps) (L := L) g)
    generalize Lw.textsL n i a ps = S1 at *
    generalize Lw.textsL n i b qs = S2 at *
    clear RA RB bA bB RA' RB' bA' bB' h h1 h2 la la'
    by_cases hf : S1 = none ∨ S2 = none ∨ ∃ L M, S1 = some L ∧ S2 = some M ∧ ¬ Lw.nodL L = Lw.nodL M
    · have X := Lib.hid (XF.out hf)
      have HF := Lib.hid hf
      clear XF XN XO SHP NE1 NE2 HD EQ hf
      go_enter Try.func9, Try.ntmps9
      go_wp2_with fail
      refine X.out.mono ?_
      rintro e w1 ⟨rfl, hb1⟩
      go_wp2_with fail
      refine (PC1.out _).mono ?_
      rintro e w' ⟨rfl, rfl⟩
      go_wp2_with fail
      refine (PC2.out _).mono ?_
      rintro e w' ⟨rfl, rfl⟩
      go_wp2_with fail
      refine (FF.out _).mono ?_
      rintro e w' ⟨rfl, rfl⟩
      go_wp2_with fail
      refine (Y1.out _ hb1).mono ?_
      rintro e w2 ⟨v, C, m, g, ok, rfl, hok, hL, hb2⟩
      have HL1 := Lib.hid hL
      have HOK := Lib.hid hok
      clear hL hok
      have hB2 := Lw.bt hb1 hb2
      go_wp2_with fail
      refine (Y2.out _ hB2).mono ?_
      rintro e w3 ⟨v', C', m', g', ok', rfl, hok', hL', hb3⟩
      have HL2 := Lib.hid hL'
      have HOK' := Lib.hid hok'
      clear hL' hok'
      have hB3 := Lw.bt hB2 hb3
      cases ok with
      | false =>
        clear HF HOK HOK' HL1 HL2
        go_wp2_with fail
        go_ret
        exact ⟨by simp, hB3⟩
      | true =>
        cases ok' with
        | false =>
          clear HF HOK HOK' HL1 HL2
          go_wp2_with fail
          go_ret
          exact ⟨by simp, hB3⟩
        | true =>
          have z : (v != v') = true := by
            rcases HF.out with h | h | ⟨L, M, h1, h2, h3⟩
            · have := HOK.out; rw [h] at this; cases this
            · have := HOK'.out; rw [h] at this; cases this
            · rw [(HL1.out L h1).1, (HL2.out M h2).1]; simpa using h3
          clear HF HOK HOK' HL1 HL2
          go_wp2_with fail
          go_ret
          exact ⟨by simp, hB3⟩
    · obtain ⟨L, hL1⟩ : ∃ L, S1 = some L := by
        rcases hS : S1 with _ | L
        · exact absurd (.inl hS) hf
        · exact ⟨L, rfl⟩
      obtain ⟨M, hM1⟩ : ∃ M, S2 = some M := by
        rcases hS : S2 with _ | M
        · exact absurd (.inr (.inl hS)) hf
        · exact ⟨M, rfl⟩
      have hLM : Lw.nodL L = Lw.nodL M := Classical.byContradiction fun h => hf (.inr (.inr ⟨L, M, hL1, hM1, h⟩))
      subst hL1 hM1
      by_cases hab : a = b
      · have X := Lib.hid (XN.out L M rfl rfl hLM hab)
        have EQ2 := EQ.out
        rw [decide_eq_true hab] at EQ2
        have EQ2 := Lib.hid EQ2
        have HLM := Lib.hid hLM
        clear XF XN XO SHP NE1 NE2 HD EQ hf hLM hab
        go_enter Try.func9, Try.ntmps9
        go_wp2_with fail
        refine X.out.mono ?_
        rintro e w1 ⟨rfl, hb1⟩
        go_wp2_with fail
        refine (PC1.out _).mono ?_
        rintro e w' ⟨rfl, rfl⟩
        go_wp2_with fail
        refine (PC2.out _).mono ?_
        rintro e w' ⟨rfl, rfl⟩
        go_wp2_with fail
        refine (FF.out _).mono ?_
        rintro e w' ⟨rfl, rfl⟩
        go_wp2_with fail
        refine (Y1.out _ hb1).mono ?_
        rintro e w2 ⟨v, C, m, g, ok, rfl, hok, hL, hb2⟩
        obtain rfl : ok = true := hok
        have V1 := (hL L rfl).1
        clear hL
        have hB2 := Lw.bt hb1 hb2
        have V1 := Lib.hid V1
        go_wp2_with fail
        refine (Y2.out _ hB2).mono ?_
        rintro e w3 ⟨v', C', m', g', ok', rfl, hok', hL', hb3⟩
        obtain rfl : ok' = true := hok'
        have V2 := (hL' M rfl).1
        clear hL'
        have hvv : v = v' := by rw [V1.out, V2]; exact HLM.out
        subst hvv
        clear V1 V2
        have hB3 := Lw.bt hB2 hb3
        go_wp2_with fail
        refine (EQ2.out _ hB3).mono ?_
        rintro e w4 ⟨rfl, hb4⟩
        go_wp2_with fail
        go_ret
        exact ⟨by simp, Lw.bt hB3 hb4⟩
      · have SH := SHP.out L M rfl rfl
        obtain ⟨kk, ⟨x, y, hx, hy, hxy⟩, hno⟩ := Lw.first_eqk (Lw.ex_eqk SH (HD.out L rfl) hLM)
        have X := Lib.hid (XO.out L M rfl rfl hLM hab kk x y hx hy hxy hno SH)
        have EQ2 := EQ.out
        rw [decide_eq_false hab] at EQ2
        have EQ2 := Lib.hid EQ2
        have HLM := Lib.hid hLM
        have NL := Lib.hid (NE1.out L rfl)
        have NM := Lib.hid (NE2.out M rfl)
        have HX := Lib.hid hx
        have HY := Lib.hid hy
        have HXY := Lib.hid hxy
        have HNO := Lib.hid hno
        have HSH := Lib.hid SH
        clear XF XN XO SHP NE1 NE2 HD EQ hf hLM hab hx hy hxy hno SH
        go_enter Try.func9, Try.ntmps9
        go_wp2_with fail
        refine X.out.mono ?_
        rintro e w1 ⟨P, pn, pc, Q, qn, qc, rfl, RP, RQ, hb1⟩
        have RP := Lib.hid RP
        have RQ := Lib.hid RQ
        go_wp2_with fail
        refine (PC1.out _).mono ?_
        rintro e w' ⟨rfl, rfl⟩
        go_wp2_with fail
        refine (PC2.out _).mono ?_
        rintro e w' ⟨rfl, rfl⟩
        go_wp2_with fail
        refine (FF.out _).mono ?_
        rintro e w' ⟨rfl, rfl⟩
        go_wp2_with fail
        refine (Y1.out _ hb1).mono ?_
        rintro e w2 ⟨v, C, m, g, ok, rfl, hok, hL, hb2⟩
        obtain rfl : ok = true := hok
        obtain ⟨V1, T, TX, hT, hm⟩ := hL L rfl
        clear hL
        have hB2 := Lw.bt hb1 hb2
        have V1 := Lib.hid V1
        have HT := Lib.hid hT
        have TX := Lib.hid TX
        clear hT
        go_wp2_with fail
        refine (Y2.out _ hB2).mono ?_
        rintro e w3 ⟨v', C', m', g', ok', rfl, hok', hL', hb3⟩
        obtain rfl : ok' = true := hok'
        obtain ⟨V2, T', TX', hT', hm'⟩ := hL' M rfl
        clear hL'
        have HT' := Lib.hid hT'
        have TX' := Lib.hid TX'
        clear hT'
        have hvv : v = v' := by rw [V1.out, V2]; exact HLM.out
        subst hvv
        clear V1 V2
        have hB3 := Lw.bt hB2 hb3
        go_wp2_with fail
        refine (EQ2.out _ hB3).mono ?_
        rintro e w4 ⟨rfl, hb4⟩
        have hB4 := Lw.bt hB3 hb4
        have hkl : kk < m := by
          have h := (List.getElem?_eq_some_iff.1 HX.out).1
          rw [← HT.out, List.length_map, TX.out.2.2] at h; exact h
        have hmm : m' = m := by
          have h := Lw.shp_len HSH.out
          rw [← HT.out, ← HT'.out, List.length_map, List.length_map, TX.out.2.2, TX'.out.2.2] at h; exact h.symm
        subst hmm
        have TA := Lib.hid (TX.out.below (Nat.le_refl _) (Lw.bt hb3 hb4))
        have TB := Lib.hid (TX'.out.below (Nat.le_refl _) hb4)
        have RP4 := Lib.hid (RP.out.below (Nat.le_refl _) (Lw.bt (Lw.bt hb2 hb3) hb4))
        have RQ4 := Lib.hid (RQ.out.below (Nat.le_refl _) (Lw.bt (Lw.bt hb2 hb3) hb4))
        have LX := NL.out x (List.mem_of_getElem? HX.out)
        have LY := NM.out y (List.mem_of_getElem? HY.out)
        have lpn : pn ≤ 5000 := by have h1 := RP.out.1; have h2 := LX.2.1; rw [Lw.intsV_length] at h1; omega
        have lqn : qn ≤ 5000 := by have h1 := RQ.out.1; have h2 := LY.2.1; rw [Lw.intsV_length] at h1; omega
        clear TX TX' RP RQ LX LY EQ2 Y1 Y2 X PC1 PC2 FF
        go_wp2_with fail
        go_loopw [23] (fun j wr => ∃ s : Nat, j = .int .i64 (s : Int) ∧ s ≤ kk ∧ Below w4.heap.size w4 wr) (fun j _ => m' - (intOf j).toNat)
        case atStart => exact ⟨0, rfl, by omega, Below.refl _ _⟩
        case round =>
          obtain ⟨s, rfl, hs, hBr⟩ := hrel
          have hsm : s < m' := by omega
          have hsm' : (s : Int) < (m' : Int) := by omega
          obtain ⟨t1, ad, rfl, had, hc1, ok1, g1⟩ := (TA.out.below (Nat.le_refl _) hBr).at_ HT.out hsm
          obtain ⟨t2, ad', rfl, had', hc2, ok2, g2⟩ := (TB.out.below (Nat.le_refl _) hBr).at_ HT'.out hsm
          have SH := Lw.shp_at HSH.out s
          have NOs := fun h => HNO.out s h
          obtain ⟨⟨r1A, r1n, r1c, r1z⟩, hr1⟩ : ∃ z, T[s] = z := ⟨_, rfl⟩
          obtain ⟨⟨r2A, r2n, r2c, r2z⟩, hr2⟩ : ∃ z, T'[s] = z := ⟨_, rfl⟩
          rw [hr1] at hc1 ok1 g1
          rw [hr2] at hc2 ok2 g2
          clear hr1 hr2
          simp only at hc1 hc2
          have s0 : (0 : Int) ≤ (s : Int) := by omega
          have hsr := hBr.size
          have hadb : (ad.add s).block < wr.heap.size := by rw [Lw.add_block]; exact had
          have hadb' : (ad'.add s).block < wr.heap.size := by rw [Lw.add_block]; exact had'
          rcases r1A with _ | a1
          · have e1 : L[s]? = some none := g1
            have hne : ¬ s = kk := fun e => by rw [e] at e1; rw [HX.out] at e1; cases e1
            have hr0 : r1n = 0 := by
              rcases Nat.eq_zero_or_pos r1n with h | h
              · exact h
              · obtain ⟨_, h2, _⟩ := (show Lw.Rd wr 1 none r1n (Lw.intsV .u8 r1z) from ok1.1.1).2 h; cases h2
            subst hr0
            clear SH NOs g1 g2 e1 ok1 ok2
            go_wp2_with fail
            refine wp_region_held_drew (S := Lw.Sm wr) (by kernel_rfl) (Lw.sm_drew wr) (fun hHeld => ?_)
            (refine Lw.take1 (i := 0) (v := ?_) rfl (by kernel_rfl) (by kernel_rfl) (by kernel_rfl) (fun _ _ _ h => h) (Or.inl ⟨by rfl, ?_⟩) (by assumption) ?_; rotate_left 1; (focus (intro wS hSw; obtain ⟨hS1, hS2, hS3, hS4⟩ := hSw; go_simp <;> with_reducible rfl)); (try simp only [Act.put, List.setIfInBounds_toArray, List.set_cons_zero, List.set_cons_succ]))
            (refine Lw.take1 (i := 1) (v := ?_) rfl (by kernel_rfl) (by kernel_rfl) (by kernel_rfl) (fun _ _ _ h => h) (Or.inl ⟨by rfl, ?_⟩) (by assumption) ?_; rotate_left 1; (focus (intro wS hSw; obtain ⟨hS1, hS2, hS3, hS4⟩ := hSw; go_simp <;> with_reducible rfl)); (try simp only [Act.put, List.setIfInBounds_toArray, List.set_cons_zero, List.set_cons_succ]))
            (refine Lw.take1 (i := 2) (v := ?_) rfl (by kernel_rfl) (by kernel_rfl) (by kernel_rfl) (fun _ _ _ h => h) (Or.inl ⟨by rfl, ?_⟩) (by assumption) ?_; rotate_left 1; (focus (intro wS hSw; obtain ⟨hS1, hS2, hS3, hS4⟩ := hSw; go_simp <;> with_reducible rfl)); (try simp only [Act.put, List.setIfInBounds_toArray, List.set_cons_zero, List.set_cons_succ]))
            (refine Lw.take1 (i := 3) (v := ?_) rfl (by kernel_rfl) (by kernel_rfl) (by kernel_rfl) (fun _ _ _ h => h) (Or.inl ⟨by rfl, ?_⟩) (by assumption) ?_; rotate_left 1; (focus (intro wS hSw; obtain ⟨hS1, hS2, hS3, hS4⟩ := hSw; go_simp <;> with_reducible rfl)); (try simp only [Act.put, List.setIfInBounds_toArray, List.set_cons_zero, List.set_cons_succ]))
            (refine Lw.take1 (i := 4) (v := ?_) rfl (by kernel_rfl) (by kernel_rfl) (by kernel_rfl) (fun _ _ _ h => h) (Or.inl ⟨by rfl, ?_⟩) (by assumption) ?_; rotate_left 1; (focus (intro wS hSw; obtain ⟨hS1, hS2, hS3, hS4⟩ := hSw; go_simp <;> with_reducible rfl)); (try simp only [Act.put, List.setIfInBounds_toArray, List.set_cons_zero, List.set_cons_succ]))
            (refine Lw.take1 (i := 5) (v := ?_) rfl (by kernel_rfl) (by kernel_rfl) (by kernel_rfl) (fun _ _ _ h => h) (Or.inl ⟨by rfl, ?_⟩) (by assumption) ?_; rotate_left 1; (focus (intro wS hSw; obtain ⟨hS1, hS2, hS3, hS4⟩ := hSw; go_simp <;> with_reducible rfl)); (try simp only [Act.put, List.setIfInBounds_toArray, List.set_cons_zero, List.set_cons_succ]))
            (refine Lw.take1 (i := 6) (v := ?_) rfl (by kernel_rfl) (by kernel_rfl) (by kernel_rfl) (fun _ _ _ h => h) (Or.inl ⟨by rfl, ?_⟩) (by assumption) ?_; rotate_left 1; (focus (intro wS hSw; obtain ⟨hS1, hS2, hS3, hS4⟩ := hSw; go_simp <;> with_reducible rfl)); (try simp only [Act.put, List.setIfInBounds_toArray, List.set_cons_zero, List.set_cons_succ]))
            (refine Lw.take1 (i := 7) (v := undef) rfl (by kernel_rfl) (by kernel_rfl) (by kernel_rfl) (fun _ _ _ h => h) (Or.inr ⟨by rfl, rfl⟩) (by assumption) ?_; (try simp only [Act.put, List.setIfInBounds_toArray, List.set_cons_zero, List.set_cons_succ]))
            (refine Lw.take1 (i := 8) (v := undef) rfl (by kernel_rfl) (by kernel_rfl) (by kernel_rfl) (fun _ _ _ h => h) (Or.inr ⟨by rfl, rfl⟩) (by assumption) ?_; (try simp only [Act.put, List.setIfInBounds_toArray, List.set_cons_zero, List.set_cons_succ]))
            (refine Lw.take1 (i := 9) (v := undef) rfl (by kernel_rfl) (by kernel_rfl) (by kernel_rfl) (fun _ _ _ h => h) (Or.inr ⟨by rfl, rfl⟩) (by assumption) ?_; (try simp only [Act.put, List.setIfInBounds_toArray, List.set_cons_zero, List.set_cons_succ]))
            (refine Lw.take1 (i := 10) (v := undef) rfl (by kernel_rfl) (by kernel_rfl) (by kernel_rfl) (fun _ _ _ h => h) (Or.inr ⟨by rfl, rfl⟩) (by assumption) ?_; (try simp only [Act.put, List.setIfInBounds_toArray, List.set_cons_zero, List.set_cons_succ]))
            (refine Lw.take1 (i := 11) (v := undef) rfl (by kernel_rfl) (by kernel_rfl) (by kernel_rfl) (fun _ _ _ h => h) (Or.inr ⟨by rfl, rfl⟩) (by assumption) ?_; (try simp only [Act.put, List.setIfInBounds_toArray, List.set_cons_zero, List.set_cons_succ]))
            (refine Lw.take1 (i := 12) (v := undef) rfl (by kernel_rfl) (by kernel_rfl) (by kernel_rfl) (fun _ _ _ h => h) (Or.inr ⟨by rfl, rfl⟩) (by assumption) ?_; (try simp only [Act.put, List.setIfInBounds_toArray, List.set_cons_zero, List.set_cons_succ]))
            (refine Lw.take1 (i := 13) (v := undef) rfl (by kernel_rfl) (by kernel_rfl) (by kernel_rfl) (fun _ _ _ h => h) (Or.inr ⟨by rfl, rfl⟩) (by assumption) ?_; (try simp only [Act.put, List.setIfInBounds_toArray, List.set_cons_zero, List.set_cons_succ]))
            (refine Lw.take1 (i := 14) (v := undef) rfl (by kernel_rfl) (by kernel_rfl) (by kernel_rfl) (fun _ _ _ h => h) (Or.inr ⟨by rfl, rfl⟩) (by assumption) ?_; (try simp only [Act.put, List.setIfInBounds_toArray, List.set_cons_zero, List.set_cons_succ]))
            (refine Lw.take1 (i := 15) (v := undef) rfl (by kernel_rfl) (by kernel_rfl) (by kernel_rfl) (fun _ _ _ h => h) (Or.inr ⟨by rfl, rfl⟩) (by assumption) ?_; (try simp only [Act.put, List.setIfInBounds_toArray, List.set_cons_zero, List.set_cons_succ]))
            (refine Lw.take1 (i := 16) (v := undef) rfl (by kernel_rfl) (by kernel_rfl) (by kernel_rfl) (fun _ _ _ h => h) (Or.inr ⟨by rfl, rfl⟩) (by assumption) ?_; (try simp only [Act.put, List.setIfInBounds_toArray, List.set_cons_zero, List.set_cons_succ]))
            (refine Lw.take1 (i := 17) (v := undef) rfl (by kernel_rfl) (by kernel_rfl) (by kernel_rfl) (fun _ _ _ h => h) (Or.inr ⟨by rfl, rfl⟩) (by assumption) ?_; (try simp only [Act.put, List.setIfInBounds_toArray, List.set_cons_zero, List.set_cons_succ]))
            (refine Lw.take1 (i := 18) (v := ?_) rfl (by kernel_rfl) (by kernel_rfl) (by kernel_rfl) (fun _ _ _ h => h) (Or.inl ⟨by rfl, ?_⟩) (by assumption) ?_; rotate_left 1; (focus (intro wS hSw; obtain ⟨hS1, hS2, hS3, hS4⟩ := hSw; go_simp <;> with_reducible rfl)); (try simp only [Act.put, List.setIfInBounds_toArray, List.set_cons_zero, List.set_cons_succ]))
            refine wpAnyH_done (by kernel_rfl) ?_ _
            go_wp2_with fail
            go_roundw
            case rel => exact ⟨s + 1, by go_num, by omega, Below.drew hBr⟩
            case measure => simp [intOf]; omega
          · have e1 : L[s]? = some (some r1z) := by rw [g1]; unfold Lw.topt; rw [if_neg (by simp)]
            obtain ⟨y', hy'⟩ := SH.1 ⟨r1z, e1⟩
            rcases r2A with _ | a2
            · have e2 : M[s]? = some none := g2
              rw [e2] at hy'; cases hy'
            have e2 : M[s]? = some (some r2z) := by rw [g2]; unfold Lw.topt; rw [if_neg (by simp)]
            have z1l : r1z.length = r1n := by have := ok1.1.1.1; simpa [Lw.intsV] using this
            have rn0 : (0 : Int) < (r1n : Int) := by
              have h1 := (NL.out r1z (List.mem_of_getElem? e1)).1
              have h2 : r1z.length ≠ 0 := fun h => h1 (List.eq_nil_of_length_eq_zero h)
              omega
            have zd1 : decide ((0 : Int) < (r1n : Int)) = true := decide_eq_true rn0
            have zd2 : decide (0 < r1n) = true := decide_eq_true (by omega)
            have H1 := Lib.hid (fun W (hb : Below wr.heap.size wr W) => ref_Sum (some a1) r1n r1c r1z W ((show Lw.Rd wr 1 (some a1) r1n (Lw.intsV .u8 r1z) from ok1.1.1).below (Nat.le_refl _) hb) ok1.2.1 ok1.2.2)
            have H2 := Lib.hid (fun W (hb : Below wr.heap.size wr W) => ref_Sum (some a2) r2n r2c r2z W ((show Lw.Rd wr 1 (some a2) r2n (Lw.intsV .u8 r2z) from ok2.1.1).below (Nat.le_refl _) hb) ok2.2.1 ok2.2.2)
            have BX := Lib.hid (fun W (hb : Below wr.heap.size wr W) => ref_Bytes P (some a1) pn r1n pc r1c x r1z W (RP4.out.below (Nat.le_refl _) (Lw.bt hBr hb)) ((show Lw.Rd wr 1 (some a1) r1n (Lw.intsV .u8 r1z) from ok1.1.1).below (Nat.le_refl _) hb) (by omega) (by have := ok1.2.2; simp only at this; omega))
            have BY := Lib.hid (fun W (hb : Below wr.heap.size wr W) => ref_Bytes Q (some a2) qn r2n qc r2c y r2z W (RQ4.out.below (Nat.le_refl _) (Lw.bt hBr hb)) ((show Lw.Rd wr 1 (some a2) r2n (Lw.intsV .u8 r2z) from ok2.1.1).below (Nat.le_refl _) hb) (by omega) (by have := ok2.2.2; simp only at this; omega))
            have KE : Hid (Lw.hsum r1z = Lw.hsum r2z → s = kk) := fun e => by
              rcases Nat.lt_or_ge s kk with h | h
              · exact absurd ⟨_, _, e1, e2, e⟩ (NOs h)
              · omega
            have KX : Hid (s = kk → r1z = x ∧ r2z = y ∧ Lw.hsum r1z = Lw.hsum r2z) := fun e => by
              rw [e, HX.out] at e1; rw [e, HY.out] at e2
              injection e1 with e1; injection e1 with e1; injection e2 with e2; injection e2 with e2
              exact ⟨e1.symm, e2.symm, by rw [← e1, ← e2]; exact HXY.out⟩
            have KX2 : Hid (s = kk → x = r1z ∧ y = r2z) := fun e => ⟨(KX.out e).1.symm, (KX.out e).2.1.symm⟩
            have KN : Hid (¬ Lw.hsum r1z = Lw.hsum r2z → ¬ s = kk) := fun h e => h (KX.out e).2.2
            clear SH NOs g1 g2 e1 e2 ok1 ok2 hy' KX z1l
            obtain ⟨u1, hu1⟩ : ∃ z, Lw.hsum r1z = z := ⟨_, rfl⟩
            obtain ⟨u2, hu2⟩ : ∃ z, Lw.hsum r2z = z := ⟨_, rfl⟩
            rw [hu1] at H1 KE KN
            rw [hu2] at H2 KE KN
            clear hu1 hu2
            by_cases he : u1 = u2
            · have K1 := Lib.hid (KE.out he)
              obtain ⟨kx, ky⟩ := KX2.out K1.out
              have BX2 := BX.out
              have BY2 := BY.out
              rw [decide_eq_true kx] at BX2
              rw [decide_eq_true ky] at BY2
              have BX2 := Lib.hid BX2
              have BY2 := Lib.hid BY2
              have zu : (u1 == u2) = true := by simpa using he
              clear KE KN KX2 he BX BY kx ky
              go_wp2_with fail
              refine wp_region_held_drew (S := Lw.Sm wr) (by kernel_rfl) (Lw.sm_drew wr) (fun hHeld => ?_)
              (refine Lw.take1 (i := 0) (v := ?_) rfl (by kernel_rfl) (by kernel_rfl) (by kernel_rfl) (fun _ _ _ h => h) (Or.inl ⟨by rfl, ?_⟩) (by assumption) ?_; rotate_left 1; (focus (intro wS hSw; obtain ⟨hS1, hS2, hS3, hS4⟩ := hSw; go_simp <;> with_reducible rfl)); (try simp only [Act.put, List.setIfInBounds_toArray, List.set_cons_zero, List.set_cons_succ]))
              (refine Lw.take1 (i := 1) (v := ?_) rfl (by kernel_rfl) (by kernel_rfl) (by kernel_rfl) (fun _ _ _ h => h) (Or.inl ⟨by rfl, ?_⟩) (by assumption) ?_; rotate_left 1; (focus (intro wS hSw; obtain ⟨hS1, hS2, hS3, hS4⟩ := hSw; go_simp <;> with_reducible rfl)); (try simp only [Act.put, List.setIfInBounds_toArray, List.set_cons_zero, List.set_cons_succ]))
              (refine Lw.take1 (i := 2) (v := ?_) rfl (by kernel_rfl) (by kernel_rfl) (by kernel_rfl) (fun _ _ _ h => h) (Or.inl ⟨by rfl, ?_⟩) (by assumption) ?_; rotate_left 1; (focus (intro wS hSw; obtain ⟨hS1, hS2, hS3, hS4⟩ := hSw; go_simp <;> with_reducible rfl)); (try simp only [Act.put, List.setIfInBounds_toArray, List.set_cons_zero, List.set_cons_succ]))
              (refine Lw.take1 (i := 3) (v := ?_) rfl (by kernel_rfl) (by kernel_rfl) (by kernel_rfl) (fun _ _ _ h => h) (Or.inl ⟨by rfl, ?_⟩) (by assumption) ?_; rotate_left 1; (focus (intro wS hSw; obtain ⟨hS1, hS2, hS3, hS4⟩ := hSw; go_simp <;> with_reducible rfl)); (try simp only [Act.put, List.setIfInBounds_toArray, List.set_cons_zero, List.set_cons_succ]))
              (refine Lw.take1 (i := 4) (v := ?_) rfl (by kernel_rfl) (by kernel_rfl) (by kernel_rfl) (fun _ _ _ h => h) (Or.inl ⟨by rfl, ?_⟩) (by assumption) ?_; rotate_left 1; (focus (intro wS hSw; obtain ⟨hS1, hS2, hS3, hS4⟩ := hSw; go_simp <;> with_reducible rfl)); (try simp only [Act.put, List.setIfInBounds_toArray, List.set_cons_zero, List.set_cons_succ]))
              (refine Lw.take1 (i := 5) (v := ?_) rfl (by kernel_rfl) (by kernel_rfl) (by kernel_rfl) (fun _ _ _ h => h) (Or.inl ⟨by rfl, ?_⟩) (by assumption) ?_; rotate_left 1; (focus (intro wS hSw; obtain ⟨hS1, hS2, hS3, hS4⟩ := hSw; go_simp <;> with_reducible rfl)); (try simp only [Act.put, List.setIfInBounds_toArray, List.set_cons_zero, List.set_cons_succ]))
              (refine Lw.take1 (i := 6) (v := ?_) rfl (by kernel_rfl) (by kernel_rfl) (by kernel_rfl) (fun _ _ _ h => h) (Or.inl ⟨by rfl, ?_⟩) (by assumption) ?_; rotate_left 1; (focus (intro wS hSw; obtain ⟨hS1, hS2, hS3, hS4⟩ := hSw; go_simp <;> with_reducible rfl)); (try simp only [Act.put, List.setIfInBounds_toArray, List.set_cons_zero, List.set_cons_succ]))
              (refine Lw.take1 (i := 7) (v := ?_) rfl (by kernel_rfl) (by kernel_rfl) (by kernel_rfl) (fun _ _ _ h => h) (Or.inl ⟨by rfl, ?_⟩) (by assumption) ?_; rotate_left 1; (focus (intro wS hSw; obtain ⟨hS1, hS2, hS3, hS4⟩ := hSw; go_simp <;> with_reducible rfl)); (try simp only [Act.put, List.setIfInBounds_toArray, List.set_cons_zero, List.set_cons_succ]))
              (refine Lw.take1 (i := 8) (v := ?_) rfl (by kernel_rfl) (by kernel_rfl) (by kernel_rfl) (fun _ _ _ h => h) (Or.inl ⟨by rfl, ?_⟩) (by assumption) ?_; rotate_left 1; (focus (intro wS hSw; obtain ⟨hS1, hS2, hS3, hS4⟩ := hSw; go_simp <;> with_reducible rfl)); (try simp only [Act.put, List.setIfInBounds_toArray, List.set_cons_zero, List.set_cons_succ]))
              (refine Lw.take1 (i := 9) (v := ?_) rfl (by kernel_rfl) (by kernel_rfl) (by kernel_rfl) (fun _ _ _ h => h) (Or.inl ⟨by rfl, ?_⟩) (by assumption) ?_; rotate_left 1; (focus (intro wS hSw; obtain ⟨hS1, hS2, hS3, hS4⟩ := hSw; go_simp <;> with_reducible rfl)); (try simp only [Act.put, List.setIfInBounds_toArray, List.set_cons_zero, List.set_cons_succ]))
              (refine Lw.take1 (i := 10) (v := ?_) rfl (by kernel_rfl) (by kernel_rfl) (by kernel_rfl) (fun _ _ _ h => h) (Or.inl ⟨by rfl, ?_⟩) (by assumption) ?_; rotate_left 1; (focus (intro wS hSw; obtain ⟨hS1, hS2, hS3, hS4⟩ := hSw; go_simp <;> with_reducible rfl)); (try simp only [Act.put, List.setIfInBounds_toArray, List.set_cons_zero, List.set_cons_succ]))
              (refine Lw.take1 (i := 12) (v := ?_) rfl (by kernel_rfl) (by kernel_rfl) (by kernel_rfl) (fun _ _ _ h => h) (Or.inl ⟨by rfl, ?_⟩) (by assumption) ?_; rotate_left 1; (focus (intro wS hSw; obtain ⟨hS1, hS2, hS3, hS4⟩ := hSw; go_simp <;> with_reducible rfl)); (try simp only [Act.put, List.setIfInBounds_toArray, List.set_cons_zero, List.set_cons_succ]))
              (refine Lw.take1 (i := 13) (v := ?_) rfl (by kernel_rfl) (by kernel_rfl) (by kernel_rfl) (fun _ _ _ h => h) (Or.inl ⟨by rfl, ?_⟩) (by assumption) ?_; rotate_left 1; (focus (intro wS hSw; obtain ⟨hS1, hS2, hS3, hS4⟩ := hSw; go_simp <;> with_reducible rfl)); (try simp only [Act.put, List.setIfInBounds_toArray, List.set_cons_zero, List.set_cons_succ]))
              (refine Lw.take1 (i := 14) (v := ?_) rfl (by kernel_rfl) (by kernel_rfl) (by kernel_rfl) (fun _ _ _ h => h) (Or.inl ⟨by rfl, ?_⟩) (by assumption) ?_; rotate_left 1; (focus (intro wS hSw; obtain ⟨hS1, hS2, hS3, hS4⟩ := hSw; go_simp <;> with_reducible rfl)); (try simp only [Act.put, List.setIfInBounds_toArray, List.set_cons_zero, List.set_cons_succ]))
              (refine Lw.take1 (i := 15) (v := ?_) rfl (by kernel_rfl) (by kernel_rfl) (by kernel_rfl) (fun _ _ _ h => h) (Or.inl ⟨by rfl, ?_⟩) (by assumption) ?_; rotate_left 1; (focus (intro wS hSw; obtain ⟨hS1, hS2, hS3, hS4⟩ := hSw; go_simp <;> with_reducible rfl)); (try simp only [Act.put, List.setIfInBounds_toArray, List.set_cons_zero, List.set_cons_succ]))
              (refine wpAnyH_ready (rs := [11]) (by kernel_rfl) (by simp) ?_; refine Lw.cons1 (i := 11) rfl (fun K hK => ?_) AllReadyH.nil; go_simp; go_at_call 31; (with_reducible refine (H1.out _ (Below.drew (Below.refl _ _))).mono ?_); rintro e w7 ⟨rfl, hb7⟩; refine hK.out _ _ ?_ (fun hHeld => ?_); (focus exact Lw.sm_keep (Lw.sm_drew wr) hb7); clear hK K; (try simp only [Act.put, List.setIfInBounds_toArray, List.set_cons_zero, List.set_cons_succ]))
              have hS7 := Lw.sm_keep (Lw.sm_drew wr) hb7
              (refine wpAnyH_ready (rs := [16]) (by kernel_rfl) (by simp) ?_; refine Lw.cons1 (i := 16) rfl (fun K hK => ?_) AllReadyH.nil; go_simp; go_at_call 31; (with_reducible refine (H2.out _ (Lw.sm_bel hS7)).mono ?_); rintro e w8 ⟨rfl, hb8⟩; refine hK.out _ _ ?_ (fun hHeld => ?_); (focus exact Lw.sm_keep hS7 hb8); clear hK K; (try simp only [Act.put, List.setIfInBounds_toArray, List.set_cons_zero, List.set_cons_succ]))
              have hS8 := Lw.sm_keep hS7 hb8
              (refine Lw.take1 (i := 17) (v := ?_) rfl (by kernel_rfl) (by kernel_rfl) (by kernel_rfl) (fun _ _ _ h => h) (Or.inl ⟨by rfl, ?_⟩) (by assumption) ?_; rotate_left 1; (focus (intro wS hSw; obtain ⟨hS1, hS2, hS3, hS4⟩ := hSw; go_simp <;> with_reducible rfl)); (try simp only [Act.put, List.setIfInBounds_toArray, List.set_cons_zero, List.set_cons_succ]))
              (refine Lw.take1 (i := 18) (v := ?_) rfl (by kernel_rfl) (by kernel_rfl) (by kernel_rfl) (fun _ _ _ h => h) (Or.inl ⟨by rfl, ?_⟩) (by assumption) ?_; rotate_left 1; (focus (intro wS hSw; obtain ⟨hS1, hS2, hS3, hS4⟩ := hSw; go_simp <;> with_reducible rfl)); (try simp only [Act.put, List.setIfInBounds_toArray, List.set_cons_zero, List.set_cons_succ]))
              refine wpAnyH_done (by kernel_rfl) ?_ _
              have hs8 := hS8.2.2.1
              have d1 := (hS8.1 (ad.add s) hadb).trans hc1
              clear hHeld
              go_wp2_with fail
              refine (BX2.out _ (Lw.sm_bel hS8)).mono ?_
              rintro e w9 ⟨rfl, hb9⟩
              have hS9 := Lw.sm_keep hS8 hb9
              have d2 := (hS9.1 (ad'.add s) hadb').trans hc2
              go_wp2_with fail
              refine (BY2.out _ (Lw.sm_bel hS9)).mono ?_
              rintro e w10 ⟨rfl, hb10⟩
              go_wp2_with fail
              go_ret
              exact ⟨by simp, Lw.bt hB4 (Lw.bt (Lw.bt hBr (Lw.sm_bel hS9)) hb10)⟩
            · have K1 := Lib.hid (KN.out he)
              have zu : (u1 == u2) = false := by simpa using he
              have hsk : s < kk := by have := K1.out; omega
              clear KE KN KX2 he BX BY
              go_wp2_with fail
              refine wp_region_held_drew (S := Lw.Sm wr) (by kernel_rfl) (Lw.sm_drew wr) (fun hHeld => ?_)
              (refine Lw.take1 (i := 0) (v := ?_) rfl (by kernel_rfl) (by kernel_rfl) (by kernel_rfl) (fun _ _ _ h => h) (Or.inl ⟨by rfl, ?_⟩) (by assumption) ?_; rotate_left 1; (focus (intro wS hSw; obtain ⟨hS1, hS2, hS3, hS4⟩ := hSw; go_simp <;> with_reducible rfl)); (try simp only [Act.put, List.setIfInBounds_toArray, List.set_cons_zero, List.set_cons_succ]))
              (refine Lw.take1 (i := 1) (v := ?_) rfl (by kernel_rfl) (by kernel_rfl) (by kernel_rfl) (fun _ _ _ h => h) (Or.inl ⟨by rfl, ?_⟩) (by assumption) ?_; rotate_left 1; (focus (intro wS hSw; obtain ⟨hS1, hS2, hS3, hS4⟩ := hSw; go_simp <;> with_reducible rfl)); (try simp only [Act.put, List.setIfInBounds_toArray, List.set_cons_zero, List.set_cons_succ]))
              (refine Lw.take1 (i := 2) (v := ?_) rfl (by kernel_rfl) (by kernel_rfl) (by kernel_rfl) (fun _ _ _ h => h) (Or.inl ⟨by rfl, ?_⟩) (by assumption) ?_; rotate_left 1; (focus (intro wS hSw; obtain ⟨hS1, hS2, hS3, hS4⟩ := hSw; go_simp <;> with_reducible rfl)); (try simp only [Act.put, List.setIfInBounds_toArray, List.set_cons_zero, List.set_cons_succ]))
              (refine Lw.take1 (i := 3) (v := ?_) rfl (by kernel_rfl) (by kernel_rfl) (by kernel_rfl) (fun _ _ _ h => h) (Or.inl ⟨by rfl, ?_⟩) (by assumption) ?_; rotate_left 1; (focus (intro wS hSw; obtain ⟨hS1, hS2, hS3, hS4⟩ := hSw; go_simp <;> with_reducible rfl)); (try simp only [Act.put, List.setIfInBounds_toArray, List.set_cons_zero, List.set_cons_succ]))
              (refine Lw.take1 (i := 4) (v := ?_) rfl (by kernel_rfl) (by kernel_rfl) (by kernel_rfl) (fun _ _ _ h => h) (Or.inl ⟨by rfl, ?_⟩) (by assumption) ?_; rotate_left 1; (focus (intro wS hSw; obtain ⟨hS1, hS2, hS3, hS4⟩ := hSw; go_simp <;> with_reducible rfl)); (try simp only [Act.put, List.setIfInBounds_toArray, List.set_cons_zero, List.set_cons_succ]))
              (refine Lw.take1 (i := 5) (v := ?_) rfl (by kernel_rfl) (by kernel_rfl) (by kernel_rfl) (fun _ _ _ h => h) (Or.inl ⟨by rfl, ?_⟩) (by assumption) ?_; rotate_left 1; (focus (intro wS hSw; obtain ⟨hS1, hS2, hS3, hS4⟩ := hSw; go_simp <;> with_reducible rfl)); (try simp only [Act.put, List.setIfInBounds_toArray, List.set_cons_zero, List.set_cons_succ]))
              (refine Lw.take1 (i := 6) (v := ?_) rfl (by kernel_rfl) (by kernel_rfl) (by kernel_rfl) (fun _ _ _ h => h) (Or.inl ⟨by rfl, ?_⟩) (by assumption) ?_; rotate_left 1; (focus (intro wS hSw; obtain ⟨hS1, hS2, hS3, hS4⟩ := hSw; go_simp <;> with_reducible rfl)); (try simp only [Act.put, List.setIfInBounds_toArray, List.set_cons_zero, List.set_cons_succ]))
              (refine Lw.take1 (i := 7) (v := ?_) rfl (by kernel_rfl) (by kernel_rfl) (by kernel_rfl) (fun _ _ _ h => h) (Or.inl ⟨by rfl, ?_⟩) (by assumption) ?_; rotate_left 1; (focus (intro wS hSw; obtain ⟨hS1, hS2, hS3, hS4⟩ := hSw; go_simp <;> with_reducible rfl)); (try simp only [Act.put, List.setIfInBounds_toArray, List.set_cons_zero, List.set_cons_succ]))
              (refine Lw.take1 (i := 8) (v := ?_) rfl (by kernel_rfl) (by kernel_rfl) (by kernel_rfl) (fun _ _ _ h => h) (Or.inl ⟨by rfl, ?_⟩) (by assumption) ?_; rotate_left 1; (focus (intro wS hSw; obtain ⟨hS1, hS2, hS3, hS4⟩ := hSw; go_simp <;> with_reducible rfl)); (try simp only [Act.put, List.setIfInBounds_toArray, List.set_cons_zero, List.set_cons_succ]))
              (refine Lw.take1 (i := 9) (v := ?_) rfl (by kernel_rfl) (by kernel_rfl) (by kernel_rfl) (fun _ _ _ h => h) (Or.inl ⟨by rfl, ?_⟩) (by assumption) ?_; rotate_left 1; (focus (intro wS hSw; obtain ⟨hS1, hS2, hS3, hS4⟩ := hSw; go_simp <;> with_reducible rfl)); (try simp only [Act.put, List.setIfInBounds_toArray, List.set_cons_zero, List.set_cons_succ]))
              (refine Lw.take1 (i := 10) (v := ?_) rfl (by kernel_rfl) (by kernel_rfl) (by kernel_rfl) (fun _ _ _ h => h) (Or.inl ⟨by rfl, ?_⟩) (by assumption) ?_; rotate_left 1; (focus (intro wS hSw; obtain ⟨hS1, hS2, hS3, hS4⟩ := hSw; go_simp <;> with_reducible rfl)); (try simp only [Act.put, List.setIfInBounds_toArray, List.set_cons_zero, List.set_cons_succ]))
              (refine Lw.take1 (i := 12) (v := ?_) rfl (by kernel_rfl) (by kernel_rfl) (by kernel_rfl) (fun _ _ _ h => h) (Or.inl ⟨by rfl, ?_⟩) (by assumption) ?_; rotate_left 1; (focus (intro wS hSw; obtain ⟨hS1, hS2, hS3, hS4⟩ := hSw; go_simp <;> with_reducible rfl)); (try simp only [Act.put, List.setIfInBounds_toArray, List.set_cons_zero, List.set_cons_succ]))
              (refine Lw.take1 (i := 13) (v := ?_) rfl (by kernel_rfl) (by kernel_rfl) (by kernel_rfl) (fun _ _ _ h => h) (Or.inl ⟨by rfl, ?_⟩) (by assumption) ?_; rotate_left 1; (focus (intro wS hSw; obtain ⟨hS1, hS2, hS3, hS4⟩ := hSw; go_simp <;> with_reducible rfl)); (try simp only [Act.put, List.setIfInBounds_toArray, List.set_cons_zero, List.set_cons_succ]))
              (refine Lw.take1 (i := 14) (v := ?_) rfl (by kernel_rfl) (by kernel_rfl) (by kernel_rfl) (fun _ _ _ h => h) (Or.inl ⟨by rfl, ?_⟩) (by assumption) ?_; rotate_left 1; (focus (intro wS hSw; obtain ⟨hS1, hS2, hS3, hS4⟩ := hSw; go_simp <;> with_reducible rfl)); (try simp only [Act.put, List.setIfInBounds_toArray, List.set_cons_zero, List.set_cons_succ]))
              (refine Lw.take1 (i := 15) (v := ?_) rfl (by kernel_rfl) (by kernel_rfl) (by kernel_rfl) (fun _ _ _ h => h) (Or.inl ⟨by rfl, ?_⟩) (by assumption) ?_; rotate_left 1; (focus (intro wS hSw; obtain ⟨hS1, hS2, hS3, hS4⟩ := hSw; go_simp <;> with_reducible rfl)); (try simp only [Act.put, List.setIfInBounds_toArray, List.set_cons_zero, List.set_cons_succ]))
              (refine wpAnyH_ready (rs := [11]) (by kernel_rfl) (by simp) ?_; refine Lw.cons1 (i := 11) rfl (fun K hK => ?_) AllReadyH.nil; go_simp; go_at_call 31; (with_reducible refine (H1.out _ (Below.drew (Below.refl _ _))).mono ?_); rintro e w7 ⟨rfl, hb7⟩; refine hK.out _ _ ?_ (fun hHeld => ?_); (focus exact Lw.sm_keep (Lw.sm_drew wr) hb7); clear hK K; (try simp only [Act.put, List.setIfInBounds_toArray, List.set_cons_zero, List.set_cons_succ]))
              have hS7 := Lw.sm_keep (Lw.sm_drew wr) hb7
              (refine wpAnyH_ready (rs := [16]) (by kernel_rfl) (by simp) ?_; refine Lw.cons1 (i := 16) rfl (fun K hK => ?_) AllReadyH.nil; go_simp; go_at_call 31; (with_reducible refine (H2.out _ (Lw.sm_bel hS7)).mono ?_); rintro e w8 ⟨rfl, hb8⟩; refine hK.out _ _ ?_ (fun hHeld => ?_); (focus exact Lw.sm_keep hS7 hb8); clear hK K; (try simp only [Act.put, List.setIfInBounds_toArray, List.set_cons_zero, List.set_cons_succ]))
              have hS8 := Lw.sm_keep hS7 hb8
              (refine Lw.take1 (i := 17) (v := ?_) rfl (by kernel_rfl) (by kernel_rfl) (by kernel_rfl) (fun _ _ _ h => h) (Or.inl ⟨by rfl, ?_⟩) (by assumption) ?_; rotate_left 1; (focus (intro wS hSw; obtain ⟨hS1, hS2, hS3, hS4⟩ := hSw; go_simp <;> with_reducible rfl)); (try simp only [Act.put, List.setIfInBounds_toArray, List.set_cons_zero, List.set_cons_succ]))
              (refine Lw.take1 (i := 18) (v := ?_) rfl (by kernel_rfl) (by kernel_rfl) (by kernel_rfl) (fun _ _ _ h => h) (Or.inl ⟨by rfl, ?_⟩) (by assumption) ?_; rotate_left 1; (focus (intro wS hSw; obtain ⟨hS1, hS2, hS3, hS4⟩ := hSw; go_simp <;> with_reducible rfl)); (try simp only [Act.put, List.setIfInBounds_toArray, List.set_cons_zero, List.set_cons_succ]))
              refine wpAnyH_done (by kernel_rfl) ?_ _
              go_wp2_with fail
              go_roundw
              case rel => exact ⟨s + 1, by go_num, by omega, Lw.bt hBr (Lw.sm_bel hS8)⟩
              case measure => simp [intOf]; omega
  · have X := Lib.hid (tree_Clash_bad n i A B A' B' l k l' k' c d c' d' w h)
    have zv : (Lw.firstI (Lw.plcE n i l k) (Lw.plcE n i l' k') != 0) = true := by simpa using h
    replace PC1 := Lib.hid PC1
    replace PC2 := Lib.hid PC2
    replace FF := Lib.hid FF
    generalize Lw.firstI (Lw.plcE n i l k) (Lw.plcE n i l' k') = V at *
    generalize Lw.plcE n i l k = v1 at *
    generalize Lw.plcE n i l' k' = v2 at *
    clear h RA RB bA bB RA' RB' bA' bB'
    go_enter Try.func9, Try.ntmps9
    go_wp2_with fail
    refine X.out.mono ?_
    rintro e w1 ⟨rfl, hb1⟩
    go_wp2_with fail
    refine (PC1.out _).mono ?_
    rintro e w' ⟨rfl, rfl⟩
    go_wp2_with fail
    refine (PC2.out _).mono ?_
    rintro e w' ⟨rfl, rfl⟩
    go_wp2_with fail
    refine (FF.out _).mono ?_
    rintro e w' ⟨rfl, rfl⟩
    go_wp2_with fail
    go_ret
    exact ⟨by simp, hb1⟩
end LW
end Go.Proofs.Ytnlbnadjolfjpaa

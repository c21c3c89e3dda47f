/- The reference's Lead. -/
import Derived.Test.YtnlbnadjolfjpaaTrh
namespace Lw
open Go Go.RowKit
/-- what Lead hands back -/
def TxQ (S : Option (List (Option (List Int)))) (w : World) (e : Ending) (w' : World) : Prop :=
  ∃ v C m g ok, e = .returned (.tuple #[.int .i64 v, .slice C m g, .bool ok]) ∧ ok = S.isSome ∧ (∀ L, S = some L → v = nodL L ∧ ∃ T, TxL w' C m T ∧ T.map topt = L ∧ m ≤ 65) ∧ Below w.heap.size w w'
theorem drop_cons {ps : List Int} {j : Nat} (h : j < ps.length) : ps.drop j = ps[j] :: ps.drop (j + 1) := List.drop_eq_getElem_cons h
end Lw
set_option linter.unusedVariables false
set_option linter.unusedSimpArgs false
namespace Go.Proofs.Ytnlbnadjolfjpaa
open Go.RowKit
set_option maxRecDepth 100000 in
set_option maxHeartbeats 4000000 in
theorem ref_Lead (n i : Nat) (A B : Option Addr) (l k c d : Nat) (leaf ps : List Int) (w : World) (RA : Lw.Rd w 1 A l (Lw.intsV .u8 leaf)) (RB : Lw.Rd w 1 B k (Lw.intsV .u32 ps)) (hb : Lw.Byt leaf) (hp : ∀ z ∈ ps, 0 ≤ z ∧ z < 4294967296)
    (hn : n ≤ 64) (hi : i < n) (hl : l < 4096) (hk : k ≤ 64) :
    Calls Try.prog 21 #[.int .i64 (n : Int), .int .i64 (i : Int), .slice A l c, .slice B k d] w (Lw.TxQ (Lw.textsL n i leaf ps) w) := by
  have lb : ps.length = k := by have := RB.1; simpa [Lw.intsV] using this
  have LT := Lib.hid (fun W (h : Below w.heap.size w W) => ref_LeafText A l c leaf W (RA.below (Nat.le_refl _) h) (by omega))
  have HB := Lib.hid (Lw.leafT_byt hb)
  have EB := Lib.hid (fun h => Lw.texts_big (n := n) (i := i) (leaf := leaf) (ps := ps) h)
  have EO := Lib.hid (fun h => Lw.texts_of (n := n) (i := i) (leaf := leaf) (ps := ps) h)
  have HP := Lib.hid hp
  have RBH := Lib.hid RB
  have LBH := Lib.hid lb
  generalize Lw.textsL n i leaf ps = S at *
  obtain ⟨RES, hRES⟩ : ∃ r, Lw.leadL 64 n i [some (0 :: leaf)] ps = r := ⟨_, rfl⟩
  have EO := Lib.hid (fun h => (EO.out h).trans (congrArg Lw.okL hRES))
  have HR := Lib.hid hRES
  have NL : Hid (Lw.nodL [some (0 :: leaf)] = Lw.hsum (0 :: leaf)) := rfl
  clear RA RB hb hp hRES lb
  go_enter Try.func21, Try.ntmps21
  go_wp2_with fail
  refine (LT.out _ (Below.refl _ _)).mono ?_
  rintro e w1 ⟨A1, c1, rfl, own1, hb1⟩
  have OWN1 := Lib.hid own1
  clear own1
  have hs1 := hb1.size
  go_wp2_with fail
  refine (LT.out _ (Lw.balloc hb1 _)).mono ?_
  rintro e w2 ⟨A2, c2, rfl, own2, hb2⟩
  have R2 := Lib.hid (Lw.Rd.of_own own2)
  have hs2 := hb2.size
  simp at hs2
  clear own2
  go_wp2_with fail
  refine (ref_Sum A2 (1 + l) c2 (0 :: leaf) _ R2.out HB.out (by omega)).mono ?_
  rintro e w3 ⟨rfl, hb3⟩
  have hs3 := hb3.size
  have hB3 : Below w.heap.size w w3 := Lw.bt (Lw.bt (Lw.balloc hb1 _) hb2) hb3
  have OT := Lib.hid (Lw.ownsBelow (Lw.ownsBelow (OWN1.out.alloc (.cells #[.slice A1 (1 + l) c1] 40)) (Nat.le_refl _) hb2) (Nat.le_refl _) hb3)
  have OL := Lib.hid (Lw.ownsBelow (Lw.ownsBelow (Lw.own_lit w1 (base := w.heap.size) (e := 40) (size := 1) (cs := #[.slice A1 (1 + l) c1]) (xs := [.slice A1 (1 + l) c1]) rfl rfl (by decide) hs1) (Nat.le_refl _) hb2) (Nat.le_refl _) hb3)
  go_wp2_with fail
  go_loop [15, 25] (fun _ i => ∃ j : Nat, i = .int .i64 (j : Int) ∧ j ≤ k ∧ Hid ((ps.take j).any (fun x => decide (65535 < x)) = false)) (fun _ i => k - (intOf i).toNat)
  case atStart => exact ⟨0, rfl, by omega, rfl⟩
  case round =>
    obtain ⟨j, rfl, hj, TK⟩ := hrel
    by_cases hlt : j < k
    · have hlt' : (j : Int) < (k : Int) := by omega
      have hjl : j < ps.length := by rw [LBH.out]; exact hlt
      obtain ⟨ad, rfl, had, hcell⟩ := (RBH.out.below (Nat.le_refl _) hB3).at1 hlt (Lw.intsV_get hjl)
      have N := Lib.hid (Lw.any_take hjl TK.out)
      have D := Lib.hid (Lw.any_at (p := fun x : Int => decide (65535 < x)) hjl)
      obtain ⟨x, hx⟩ : ∃ r, ps[j] = r := ⟨_, rfl⟩
      rw [hx] at hcell N D
      clear hx
      by_cases h0 : 65535 < x
      · have D1 := Lib.hid (EB.out (show Lw.bigP ps = true from D.out (by simpa using h0)))
        clear N D EB EO HR
        go_wp2_with fail
        go_ret3
        exact ⟨_, _, _, _, _, rfl, by rw [D1.out]; rfl, (fun L hL => by rw [D1.out] at hL; cases hL), hB3⟩
      · have N1 := Lib.hid (N.out (by simpa using h0))
        clear N D
        go_wp2_with fail
        go_round
        case rel => exact ⟨j + 1, by go_num, by omega, N1⟩
        case measure => simp [intOf]; omega
    · have hlt' : ¬ (j : Int) < (k : Int) := by omega
      have hkk : ps.take j = ps := List.take_of_length_le (by rw [LBH.out]; omega)
      have hbig : Lw.bigP ps = false := by have := TK.out; rwa [hkk] at this
      have E := Lib.hid (EO.out hbig)
      have PP : Hid (∀ z ∈ ps, 0 ≤ z ∧ z < 65536) := fun z hz => by
        have := List.any_eq_false.1 hbig z hz
        simp at this
        exact ⟨(HP.out z hz).1, by omega⟩
      clear hkk hbig EB EO TK
      go_wp2_with fail
      go_loopw [0, 1, 11, 12, 13, 16] (fun a b v q u _ wr => ∃ (n' i' f j : Nat) (T : List Lw.TRow) (m : Nat), (a = .int .i64 (n' : Int) ∧ b = .int .i64 (i' : Int) ∧ u = .int .i64 (j : Int) ∧ j ≤ k ∧ n' ≤ f + 1 ∧ n' ≤ 64 ∧ 1 ≤ n' ∧ i' < n' ∧ f ≤ 64 ∧ m + f = 65 ∧ 1 ≤ m ∧ T.length = m) ∧ q = .int .i64 (Lw.nodL (T.map Lw.topt)) ∧ Hid (Lw.leadL f n' i' (T.map Lw.topt) (ps.drop j) = RES) ∧ wr.ownsRow w.heap.size 40 1 v m (T.map Lw.TRow.v) ∧ Hid (∀ r ∈ T, Lw.TxtW 5 w.heap.size wr r) ∧ Below w.heap.size w wr)
        (fun a _ _ _ _ _ _ => (intOf a).toNat)
      case atStart =>
        have e1 := Lw.topt_own (n := 1 + l) OWN1.out (by omega)
        refine ⟨n, i, 64, 0, [⟨A1, 1 + l, c1, 0 :: leaf⟩], 1, ⟨rfl, rfl, rfl, by omega, by omega, by omega, by omega, hi, by omega, by omega, by omega, rfl⟩, ?_, ?_, OL.out, ?_, hB3⟩
        · rw [List.map_singleton, e1, NL.out]
        · rw [List.map_singleton, e1]; exact HR.out
        · intro r hr
          simp at hr
          subst hr
          exact ⟨OT.out, HB.out, by show 1 + l ≤ 1048576; omega⟩
      case round =>
        clear OT OL LT HB NL HR R2 OWN1 hB3 hb1 hb2 hb3
        obtain ⟨n', i', f, j, T, m, ⟨rfl, rfl, rfl, hj1, hn1, hn2, hn3, hi1, hf1, hm1, hm2, hm3⟩, rfl, HL, own, TX, hB⟩ := hrel
        have OWN := Lib.hid own
        clear own
        have hsz := hB.size
        obtain ⟨v0, v1⟩ := Lw.nodL_bd (T.map Lw.topt)
        by_cases hn : n' ≤ 1
        · have hn' : ¬ (1 : Int) < (n' : Int) := by omega
          have R1 := HL.out
          rw [Lw.lead_end hn] at R1
          obtain ⟨C, g, rfl, _⟩ := Lw.ownsForm OWN.out
          by_cases hk0 : j = k
          · have z : ((j : Int) == (k : Int)) = true := by simp; omega
            have hps : ps.drop j = [] := List.drop_eq_nil_of_le (by rw [LBH.out]; omega)
            have ES : Hid (S = some (T.map Lw.topt)) := by rw [E.out, ← R1, hps]; exact rfl
            clear R1 HL E
            obtain ⟨V, hV⟩ : ∃ V, Lw.nodL (T.map Lw.topt) = V := ⟨_, rfl⟩
            rw [hV]
            have HV := Lib.hid hV
            clear hV
            go_wp2_with fail
            go_ret3
            refine ⟨V, C, m, g, true, by simp [z], by rw [ES.out]; rfl, (fun L hL => ?_), hB⟩
            rw [ES.out] at hL
            injection hL with hL
            exact ⟨by rw [← hL, HV.out], T, ⟨Lw.Rd.of_own OWN.out, fun r hr => (TX.out r hr).ok, hm3⟩, hL, by omega⟩
          · have z : ((j : Int) == (k : Int)) = false := by simp; omega
            have ES : Hid (S = none) := by
              have hjl : j < ps.length := by rw [LBH.out]; omega
              rw [E.out, ← R1, Lw.drop_cons hjl]
              exact rfl
            clear R1 HL E
            go_wp2_with fail
            go_ret3
            exact ⟨Lw.nodL (T.map Lw.topt), C, m, g, false, by simp [z], by rw [ES.out]; rfl, (fun L hL => by rw [ES.out] at hL; cases hL), hB⟩
        · have hn' : (1 : Int) < (n' : Int) := by omega
          obtain ⟨f, rfl⟩ : ∃ f', f = f' + 1 := ⟨f - 1, by omega⟩
          have n2 : ((n' : Int) + 1) / 2 = (((n' + 1) / 2 : Nat) : Int) := by omega
          have i2 : (i' : Int) / 2 = ((i' / 2 : Nat) : Int) := by omega
          have hlt2 : (n' + 1) / 2 < n' := by omega
          have N2 := Lib.hid n2
          have I2 := Lib.hid i2
          clear n2 i2
          have tp : (i' : Int).tmod 2 = (i' : Int) % 2 := Int.tmod_eq_emod_of_nonneg (by omega)
          by_cases hcase : i' % 2 = 0 ∧ n' ≤ i' + 1
          · have zp : ((i' : Int) % 2 == 0) = true := by simp; omega
            have hge' : (n' : Int) ≤ (i' : Int) + 1 := by omega
            have HL2 := Lib.hid ((Lw.lead_none (f := f) (L := T.map Lw.topt) (ps := ps.drop j) hn hcase.1 hcase.2).symm.trans HL.out)
            have NN := Lib.hid (Lw.nodL_none (T.map Lw.topt))
            go_wp2_with (at_builtin; refine Lw.wpList_app elRws rfl _ _ rfl rfl (OWN.out.alloc _) rfl (by first | exact Lw.Rd.nil _ _ _ | exact Lw.Rd.lit (Lw.blk_new' (by simp) _ _) rfl rfl | exact Lw.Rd.lit (Lw.blk_alloc (Lw.blk_new' (by simp) _ _) _) rfl rfl) (Lw.one_sl _ _ _) (by omega) (Lw.balloc hB _) (Nat.le_refl _) (by simp; omega) ?_; intro v3 w3 own3 hb3 hg3 _)
            go_roundw
            case rel =>
              refine ⟨(n' + 1) / 2, i' / 2, f, j, T ++ [⟨none, 0, 0, []⟩], m + 1, ⟨by rw [N2.out], by rw [I2.out], rfl, by omega, by omega, by omega, by omega, by omega, by omega, by omega, by omega, by simp [hm3]⟩, ?_, ?_, ?_, ?_, hb3⟩
              · rw [List.map_append]; show _ = Value.int .i64 (Lw.nodL (T.map Lw.topt ++ [none])); rw [NN.out]
              · rw [List.map_append]; exact HL2.out
              · rw [Lw.map_snoc]; exact own3
              · intro r hr
                rcases List.mem_append.1 hr with hr | hr
                · obtain ⟨o1, o2, o3⟩ := TX.out r hr
                  exact ⟨Lw.own_keep (o1.alloc _) (OWN.out.alloc _) (by decide) hg3, o2, o3⟩
                · simp at hr
                  subst hr
                  exact ⟨World.ownsRow_nil _ _ _ _, by intro x hx; simp at hx, by decide⟩
            case measure => simp [intOf]; omega
          · by_cases hk0 : k ≤ j
            · have hkj : (k : Int) ≤ (j : Int) := by omega
              have hps : ps.drop j = [] := List.drop_eq_nil_of_le (by rw [LBH.out]; omega)
              have ES : Hid (S = none) := by rw [E.out, ← HL.out, hps, Lw.lead_out hn hcase]; exact rfl
              clear HL E
              rcases (by omega : i' % 2 = 1 ∨ (i' % 2 = 0 ∧ ¬ n' ≤ i' + 1)) with hp | ⟨hp, hq⟩
              · have zp : ((i' : Int) % 2 == 0) = false := by simp; omega
                go_wp2_with fail
                go_ret3
                exact ⟨_, _, _, _, _, rfl, by rw [ES.out]; rfl, (fun L hL => by rw [ES.out] at hL; cases hL), hB⟩
              · have zp : ((i' : Int) % 2 == 0) = true := by simp; omega
                have hq' : ¬ (n' : Int) ≤ (i' : Int) + 1 := by omega
                go_wp2_with fail
                go_ret3
                exact ⟨_, _, _, _, _, rfl, by rw [ES.out]; rfl, (fun L hL => by rw [ES.out] at hL; cases hL), hB⟩
            · have hkj : ¬ (k : Int) ≤ (j : Int) := by omega
              have hkj' : (j : Int) < (k : Int) := by omega
              have hjl : j < ps.length := by rw [LBH.out]; omega
              obtain ⟨ad, rfl, had, hcell⟩ := (RBH.out.below (Nat.le_refl _) hB).at1 (by omega : j < k) (Lw.intsV_get hjl)
              have DC := Lw.drop_cons hjl
              obtain ⟨x0, x1⟩ := PP.out _ (List.getElem_mem hjl)
              obtain ⟨x, hx⟩ : ∃ r, ps[j] = r := ⟨_, rfl⟩
              rw [hx] at hcell DC x0 x1
              have HLd := HL.out
              rw [DC] at HLd
              have HLd := Lib.hid HLd
              obtain ⟨V, hV⟩ : ∃ V, Lw.nodL (T.map Lw.topt) = V := ⟨_, rfl⟩
              rw [hV] at v0 v1 ⊢
              have HV := Lib.hid hV
              have wx : wrap64 x = x := by unfold wrap64; omega
              have P1 := Lib.hid (fun w => ref_PairText V x w (by omega) (by omega) (by omega) (by omega))
              have P2 := Lib.hid (fun w => ref_PairText x V w (by omega) (by omega) (by omega) (by omega))
              clear hx DC HL hV
              rcases (by omega : i' % 2 = 1 ∨ (i' % 2 = 0 ∧ ¬ n' ≤ i' + 1)) with hp | ⟨hp, hq⟩
              · have zp : ((i' : Int) % 2 == 0) = false := by simp; omega
                have zp1 : ((i' : Int) % 2 == 1) = true := by simp; omega
                have HL2 := Lib.hid ((Lw.lead_odd (f := f) (L := T.map Lw.topt) (x := x) (ps := ps.drop (j + 1)) hn hp).symm.trans HLd.out)
                rw [HV.out] at HL2
                go_wp2_with fail
                refine (P1.out _).mono ?_
                rintro e w5 ⟨A5, c5, rfl, own5, hb5⟩
                have hs5 := hb5.size
                have hc5 := (hb5.cell (p := ad.add j) (by rw [Lw.add_block]; exact had)).trans hcell
                go_wp2_with fail
                refine (P2.out _).mono ?_
                rintro e w7 ⟨A7, c7, rfl, own7, hb7'⟩
                have hb7 : Below wr.heap.size wr w7 := Lw.bt hb5 hb7'
                have hs7 := hb7.size
                have hB7 := Lw.bt hB hb7
                have O7 := Lib.hid (Lw.ownsBelow OWN.out (Nat.le_refl _) hb7)
                have OW7 := Lib.hid (Lw.ownsBase own7 hs5)
                clear own7 own5
                have R7 := Lib.hid (Lw.Rd.of_own OW7.out)
                go_wp2_with (at_builtin; refine Lw.wpList_app elRws rfl _ _ rfl rfl (O7.out.alloc _) rfl (by first | exact Lw.Rd.nil _ _ _ | exact Lw.Rd.lit (Lw.blk_new' (by simp) _ _) rfl rfl | exact Lw.Rd.lit (Lw.blk_alloc (Lw.blk_new' (by simp) _ _) _) rfl rfl) (Lw.one_sl _ _ _) (by omega) (Lw.balloc hB7 _) (Nat.le_refl _) (by simp; omega) ?_; intro v3 w3 own3 hb3 hg3 _)
                have OW3 := Lib.hid (Lw.own_keep (OW7.out.alloc (.cells #[.slice A7 5 c7] 40)) (O7.out.alloc _) (by decide) hg3)
                refine (ref_Sum A7 5 c7 (Lw.pairT x V) _ (Lw.Rd.of_own OW3.out) (Lw.pairT_byt _ _) (by omega)).mono ?_
                rintro e w8 ⟨rfl, hb8⟩
                have O8 := Lib.hid (Lw.ownsBelow own3 (Nat.le_refl _) hb8)
                go_wp2_with fail
                go_roundw
                case rel =>
                  refine ⟨(n' + 1) / 2, i' / 2, f, j + 1, T ++ [⟨A7, 5, c7, Lw.pairT x V⟩], m + 1, ⟨by rw [N2.out], by rw [I2.out], by go_num, by omega, by omega, by omega, by omega, by omega, by omega, by omega, by omega, by simp [hm3]⟩, ?_, ?_, ?_, ?_, Lw.bt hb3 hb8⟩
                  · rw [List.map_append, List.map_singleton, Lw.topt_own (n := 5) OW7.out (by decide), Lw.nodL_some]
                  · rw [List.map_append, List.map_singleton, Lw.topt_own (n := 5) OW7.out (by decide)]; exact HL2.out
                  · rw [Lw.map_snoc]; exact O8.out
                  · intro r hr
                    rcases List.mem_append.1 hr with hr | hr
                    · obtain ⟨o1, o2, o3⟩ := TX.out r hr
                      exact ⟨Lw.ownsBelow (Lw.own_keep ((Lw.ownsBelow o1 (Nat.le_refl _) hb7).alloc _) (O7.out.alloc _) (by decide) hg3) (Nat.le_refl _) hb8, o2, o3⟩
                    · simp at hr
                      subst hr
                      exact ⟨Lw.ownsBelow (Lw.ownsBase OW3.out (by omega)) (Nat.le_refl _) hb8, Lw.pairT_byt _ _, (by decide : (5 : Nat) ≤ 1048576)⟩
                case measure => simp [intOf]; omega
              · have zp : ((i' : Int) % 2 == 0) = true := by simp; omega
                have zp1 : ((i' : Int) % 2 == 1) = false := by simp; omega
                have hq' : ¬ (n' : Int) ≤ (i' : Int) + 1 := by omega
                have HL2 := Lib.hid ((Lw.lead_even (f := f) (L := T.map Lw.topt) (x := x) (ps := ps.drop (j + 1)) hn hp hq).symm.trans HLd.out)
                rw [HV.out] at HL2
                go_wp2_with fail
                refine (P1.out _).mono ?_
                rintro e w7 ⟨A7, c7, rfl, own7, hb7⟩
                have hs7 := hb7.size
                have hB7 := Lw.bt hB hb7
                have O7 := Lib.hid (Lw.ownsBelow OWN.out (Nat.le_refl _) hb7)
                have OW7 := Lib.hid own7
                clear own7
                have R7 := Lib.hid (Lw.Rd.of_own OW7.out)
                go_wp2_with (at_builtin; refine Lw.wpList_app elRws rfl _ _ rfl rfl (O7.out.alloc _) rfl (by first | exact Lw.Rd.nil _ _ _ | exact Lw.Rd.lit (Lw.blk_new' (by simp) _ _) rfl rfl | exact Lw.Rd.lit (Lw.blk_alloc (Lw.blk_new' (by simp) _ _) _) rfl rfl) (Lw.one_sl _ _ _) (by omega) (Lw.balloc hB7 _) (Nat.le_refl _) (by simp; omega) ?_; intro v3 w3 own3 hb3 hg3 _)
                have OW3 := Lib.hid (Lw.own_keep (OW7.out.alloc (.cells #[.slice A7 5 c7] 40)) (O7.out.alloc _) (by decide) hg3)
                refine (ref_Sum A7 5 c7 (Lw.pairT V x) _ (Lw.Rd.of_own OW3.out) (Lw.pairT_byt _ _) (by omega)).mono ?_
                rintro e w8 ⟨rfl, hb8⟩
                have O8 := Lib.hid (Lw.ownsBelow own3 (Nat.le_refl _) hb8)
                go_wp2_with fail
                go_roundw
                case rel =>
                  refine ⟨(n' + 1) / 2, i' / 2, f, j + 1, T ++ [⟨A7, 5, c7, Lw.pairT V x⟩], m + 1, ⟨by rw [N2.out], by rw [I2.out], by go_num, by omega, by omega, by omega, by omega, by omega, by omega, by omega, by omega, by simp [hm3]⟩, ?_, ?_, ?_, ?_, Lw.bt hb3 hb8⟩
                  · rw [List.map_append, List.map_singleton, Lw.topt_own (n := 5) OW7.out (by decide), Lw.nodL_some]
                  · rw [List.map_append, List.map_singleton, Lw.topt_own (n := 5) OW7.out (by decide)]; exact HL2.out
                  · rw [Lw.map_snoc]; exact O8.out
                  · intro r hr
                    rcases List.mem_append.1 hr with hr | hr
                    · obtain ⟨o1, o2, o3⟩ := TX.out r hr
                      exact ⟨Lw.ownsBelow (Lw.own_keep ((Lw.ownsBelow o1 (Nat.le_refl _) hb7).alloc _) (O7.out.alloc _) (by decide) hg3) (Nat.le_refl _) hb8, o2, o3⟩
                    · simp at hr
                      subst hr
                      exact ⟨Lw.ownsBelow (Lw.ownsBase OW3.out (by omega)) (Nat.le_refl _) hb8, Lw.pairT_byt _ _, (by decide : (5 : Nat) ≤ 1048576)⟩
                case measure => simp [intOf]; omega
end Go.Proofs.Ytnlbnadjolfjpaa

/- The reference's Parts walked. -/
import Derived.Test.YtfocpbknckmmaaaKPartsPlays9
import Derived.Deep.DeepCutAuto
set_option linter.unusedVariables false
set_option linter.unusedSimpArgs false
namespace Go.Proofs.Ytfocpbknckmmaaa
open Go.RowKit
set_option maxRecDepth 100000 in
set_option maxHeartbeats 8000000 in
theorem ref_Parts (p : Int) (t : Nat) (A : Option Addr) (n c : Nat) (gs : List Lw.GateT) (B : Option Addr) (m d : Nat) (ins : List Int) (C : Option Addr) (k f : Nat) (rs : List Int) (w : World) (RA : Lw.Rd w 4 A n (Lw.gatesV gs)) (RB : Lw.Rd w 1 B m (Lw.intsV .i64 ins)) (RC : Lw.Rd w 1 C k (Lw.intsV .i64 rs)) (h : Lw.clrE p gs ins = 0) (h2 : Lw.ParP p t) (h3 : Lw.outR p rs = false) :
    Calls Try.prog 9 #[.int .i64 p, .int .i64 (t : Int), .slice A n c, .slice B m d, .slice C k f] w fun e w' => ∃ l, e = .returned l ∧ RfS w p t (2 * t + 1) ins rs gs n l w' := by
  have la : gs.length = n := by have := RA.1; rw [Lw.gatesV_length] at this; omega
  have lb : ins.length = m := by have := RB.1; simpa [Lw.intsV] using this
  obtain ⟨q1, q2, q3, q4, q5⟩ := Lw.clr_zero h
  obtain ⟨p1, p2, pp⟩ := Lw.ppr_ok q1
  obtain ⟨t1, t2, t3⟩ := h2
  have GA := Lw.gsE_all q5
  have IB := Lib.hid (Lw.outR_in' q4)
  have RSB := Lw.outR_in' h3
  have GK := Lib.hid (fun k hk => (GA k hk).2)
  have t4 : t ≤ 4 := by omega
  have PU := Lib.hid (Lw.prT_used (p := p) (ins := ins) (random := rs) (gs := gs) t4)
  have TAK := Lib.hid (fun used W (hb : Below w.heap.size w W) (hu : used ≤ 1000000) => ref_taken C k f used t rs W (RC.below (Nat.le_refl _) hb) hu (by omega))
  obtain ⟨mm, hmm⟩ : ∃ mm : Nat, mm = 2 * t + 1 := ⟨_, rfl⟩
  have SPL := Lib.hid (fun sec used W A' g' (R : Lw.Rd W 1 A' t (Lw.intsV .i64 (Lw.takR rs used t))) s0 s1 => ref_SplitO p sec mm A' t g' (Lw.takR rs used t) W R p1 p2 (by omega) s0 s1 (Lw.takR_bd (by omega : 0 < p) RSB used t) (by omega))
  have JON := Lib.hid (fun i A' g' W (R : Lw.Rd W 2 A' mm (Lw.pairsV .i64 .i64 (Lw.dlL mm i))) => ref_Join p A' mm g' (Lw.dlL mm i) W R p1 p2 pp (by rw [Lw.dlL_len]; omega) (Lw.dlL_ok (by omega) p1))
  have WGT := Lib.hid (fun i (hi : i < mm) => Lw.wgt_eq (p := p) (n := mm) (i := i) pp p1 p2 hi (by omega))
  have PR := Lib.hid (fun k (hk : k ≤ gs.length) => Lw.prT_rows (p := p) p1 (t := t) (ins := ins) (random := rs) (gs := gs) (fun k hk => (GA k hk).2) k hk)
  have PN := Lib.hid (fun k (hk : k < gs.length) => Lw.prT_next (p := p) (t := t) (ins := ins) (random := rs) hk)
  have PL := Lib.hid (fun k => Lw.prT_len p t ins rs gs k)
  rw [lb] at GK
  have RA := Lib.hid RA
  have RB := Lib.hid RB
  have LA := Lib.hid la
  have LB := Lib.hid lb
  have n60 : n ≤ 60 := by omega
  have m60 : m ≤ 60 := by omega
  have mp : (mm : Int) < p := by omega
  have ew1 : IntKind.i64.wrap (2 * (t : Int)) = 2 * (t : Int) := by rw [IntKind.wrap_i64]; omega
  have ew2 : IntKind.i64.wrap (2 * (t : Int) + 1) = (mm : Int) := by rw [IntKind.wrap_i64]; omega
  have MK : ∀ w : World, (Instr.makeSlice 23 (.int .i64 (mm : Int)) (.int .i64 (mm : Int))).run Try.prog w = .ok (.slice (some ⟨w.heap.size, 0, none⟩) mm mm) (w.alloc (.cells (List.replicate mm (Value.int .i64 0)).toArray 2)) := fun w => Lw.run_mk elPly rfl .i64 .i64 mm (by omega) w
  rw [← hmm]
  have HM := Lib.hid hmm
  have mm9 : mm ≤ 9 := by omega
  have mm1 : 1 ≤ mm := by omega
  clear h h3 q1 q4 q5 pp GA la lb RSB t1 t2 t3 hmm RC
  go_enter Try.func9, Try.ntmps9
  go_wp2_with fail
  go_loopw [12, 13, 33] (fun us l i wr => ∃ k : Nat, i = .int .i64 (k : Int) ∧ k ≤ n ∧ us = .int .i64 (((Lw.prT p t ins rs gs k).2 : Nat) : Int) ∧ RfS w p t mm ins rs gs k l wr) (fun _ _ i _ => n - (intOf i).toNat)
  case atStart => exact ⟨0, rfl, by omega, rfl, [], rfl, World.ownsRow_nil _ _ _ _, fun j h => absurd h (Nat.not_lt_zero _), Below.refl _ _⟩
  case round =>
    obtain ⟨k, rfl, hk, rfl, hP⟩ := hrel
    by_cases hlt : k < n
    · obtain ⟨T, tl, own, rows, hB⟩ := hP
      have hszr := hB.size
      have hkl : k < gs.length := by rw [LA.out]; exact hlt
      have hlt' : (k : Int) < (n : Int) := by omega
      obtain ⟨g0, g1, g2, g3⟩ := Lw.gatesV_get hkl
      obtain ⟨ad, rfl, had, c0, c1, c2, c3⟩ := (RA.out.below (Nat.le_refl _) hB).at4 hlt g0 g1 g2 g3
      have NX := PN.out k hkl
      have GO := GK.out k hkl
      have PRk := PR.out k (by omega)
      have PLk := PL.out k
      have PUk := PU.out k
      obtain ⟨⟨K, a, bb, N⟩, hg⟩ : ∃ z, gs[k] = z := ⟨_, rfl⟩
      rw [hg] at c0 c1 c2 c3 NX GO
      simp only at c0 c1 c2 c3
      clear g0 g1 g2 g3 hg hkl had
      obtain ⟨used, hus⟩ : ∃ u, (Lw.prT p t ins rs gs k).2 = u := ⟨_, rfl⟩
      rw [hus] at NX PUk
      rw [hus]
      have PUk : used ≤ 2160 := by omega
      have NX := Lib.hid NX
      have OWN := Lib.hid own
      have ROWS := Lib.hid rows
      have PRK := Lib.hid PRk
      have GO := Lib.hid GO
      clear own rows PRk hus
      go_upto_region 8 with (fail)
      refine Lw.at_world (fun W5 hW5 => ?_)
      have hB5 : Below wr.heap.size wr W5 := by rw [hW5.out]; exact Lw.balloc (Lw.balloc (Below.refl _ _) _) _
      have GB : W5.heap[wr.heap.size]? = some (.cells #[.int .i64 K, .int .i64 a, .int .i64 bb, .int .i64 N] 46 (0, 0)) := by rw [hW5.out]; exact Lw.blk_alloc (Lw.blk_new _ _ _) _
      have z5 : W5.heap.size = wr.heap.size + 1 + 1 := by rw [hW5.out]; simp
      have OW0 : W5.ownsRow (wr.heap.size + 1) 2 1 (.slice (some ⟨wr.heap.size + 1, 0, none⟩) mm mm) mm (Lw.intsV .i64 (List.replicate mm 0)) := by
        have := Lw.own_lit (wr.alloc (.cells #[.int .i64 K, .int .i64 a, .int .i64 bb, .int .i64 N] 46)) (base := wr.heap.size + 1) (e := 2) (size := 1) (n := mm) (cs := (List.replicate mm (Value.int .i64 0)).toArray) (xs := Lw.intsV .i64 (List.replicate mm 0)) (by simp [Lw.intsV]) (by simp [Lw.intsV]) (by omega) (by simp)
        rw [hW5.out]
        simpa using this
      have s0 := Lw.blk_cell GB 0
      have s1 := Lw.blk_cell GB 1
      have s2 := Lw.blk_cell GB 2
      have s3 := Lw.blk_cell GB 3
      simp at s0 s1 s2 s3
      have HB5 := Lib.hid hB5
      have B5 : Below w.heap.size w W5 := Below.trans hB (hB5.mono hszr)
      clear hW5 GB c0 c1 c2 c3 hB5
      obtain ⟨wr0, hwr0⟩ : ∃ w0, w0 = wr := ⟨_, rfl⟩
      subst hwr0
      obtain ⟨gb, hgb⟩ : ∃ gb, wr0.heap.size = gb := ⟨_, rfl⟩
      obtain ⟨rb, hrb⟩ : ∃ rb, gb + 1 = rb := ⟨_, rfl⟩
      rw [hgb, hrb] at z5 OW0
      rw [hgb] at s0 s1 s2 s3 hszr
      rw [hgb, hrb]
      have hgr : gb < rb := by omega
      have OW0 := Lib.hid OW0
      have G0 := Lib.hid (fun w' (h : Below rb W5 w') => (h.cell (p := ⟨gb, 0, none⟩) hgr).trans s0)
      have G1 := Lib.hid (fun w' (h : Below rb W5 w') => (h.cell (p := ⟨gb, 1, none⟩) hgr).trans s1)
      have G2 := Lib.hid (fun w' (h : Below rb W5 w') => (h.cell (p := ⟨gb, 2, none⟩) hgr).trans s2)
      have G3 := Lib.hid (fun w' (h : Below rb W5 w') => (h.cell (p := ⟨gb, 3, none⟩) hgr).trans s3)
      have ZL : (List.replicate mm (0 : Int)).length = mm := by simp
      rcases Lw.gate_ok GO.out with ⟨e, h1, h2⟩ | ⟨e, h1, h2⟩ | ⟨e, ⟨h1, h2⟩, h3, h4⟩ | ⟨e, ⟨h1, h2⟩, h3, h4⟩
      · as_aux_lemma =>
          subst e
          have NX := NX.out
          rw [Lw.prG_in] at NX
          obtain ⟨s, rfl⟩ := Int.eq_ofNat_of_zero_le h1
          have sl : s < ins.length := by have := LB.out; omega
          obtain ⟨bd, rfl, hbd, bc⟩ := (RB.out.below (Nat.le_refl _) B5).at1 (by omega : s < m) (Lw.intsV_get sl)
          rw [Int.toNat_natCast, Lw.getD_at' sl, ← HM.out] at NX
          obtain ⟨x0, x1⟩ := IB.out _ (List.getElem_mem sl)
          obtain ⟨x, hx⟩ : ∃ z, ins[s] = z := ⟨_, rfl⟩
          rw [hx] at NX bc x0 x1
          have TK := Lib.hid (TAK.out used W5 B5 (by omega))
          have SPX := Lib.hid (fun W A' g' R => SPL.out x used W A' g' R x0 x1)
          have sm : (s : Int) < (m : Int) := by omega
          have ew3 : IntKind.i64.wrap ((used : Int) + (t : Int)) = ((used + t : Nat) : Int) := by rw [IntKind.wrap_i64]; omega
          have PS := Lw.ptsL_len p (x :: Lw.takR rs used t) mm
          have PG : Hid (∀ k (h : k < (Lw.ptsL p (x :: Lw.takR rs used t) mm).length), (Lw.ptsL p (x :: Lw.takR rs used t) mm)[k] = ((k : Int) + 1, Lw.hornV p (x :: Lw.takR rs used t) ((k : Int) + 1))) := fun k h => by simp [Lw.ptsL]
          have SG := Lib.hid (fun i (h : i < mm) => Lw.shrL_get (p := p) (x := x) (more := Lw.takR rs used t) h)
          have SL := Lw.shrL_len p x (Lw.takR rs used t) mm
          obtain ⟨S, hS⟩ : ∃ S, Lw.shrL p x (Lw.takR rs used t) mm = S := ⟨_, rfl⟩
          obtain ⟨P, hP⟩ : ∃ P, Lw.ptsL p (x :: Lw.takR rs used t) mm = P := ⟨_, rfl⟩
          have SG : Hid (∀ i (h : i < mm) (h2 : i < S.length), S[i] = Lw.hornV p (x :: Lw.takR rs used t) ((i : Int) + 1)) := Lib.hid (fun i h h2 => by subst hS; exact SG.out i h)
          have PG : Hid (∀ j (h : j < P.length), P[j] = ((j : Int) + 1, Lw.hornV p (x :: Lw.takR rs used t) ((j : Int) + 1))) := Lib.hid (fun j h => by subst hP; exact PG.out j h)
          simp only [hS] at NX SL
          simp only [hP] at PS
          have NX := Lib.hid NX
          have HP := Lib.hid hP
          clear hx hS hP sl
          go_wp2_with (first | (go_at_call 25; (with_reducible refine (TK.out).mono ?_); rintro e w6 ⟨C6, g6, rfl, own6, hb6⟩; have s1' := (hb6.cell (p := ⟨gb, 1, none⟩) (show gb < W5.heap.size by omega)).trans s1; have s0' := (hb6.cell (p := ⟨gb, 0, none⟩) (show gb < W5.heap.size by omega)).trans s0; have bc' := (hb6.cell (p := bd.add s) (by rw [Lw.add_block]; exact hbd)).trans bc; have z6 := hb6.size; have SP6 := Lib.hid (SPX.out w6 C6 g6 (Lw.Rd.of_own own6)); clear own6) | (go_at_call 26; (with_reducible refine (SP6.out).mono ?_); rintro e w7 ⟨C7, g7, rfl, own7, hb7⟩))
          rw [HP.out] at own7
          have hb67 : Below W5.heap.size W5 w7 := Lw.bt hb6 hb7
          have PO := Lib.hid (Lw.ownsBase own7 (base' := rb + 1) (by omega))
          have OW7 := Lib.hid (Lw.ownsBelow OW0.out (Nat.le_refl _) hb67)
          have HB7 := Lib.hid (hb67.mono (show rb ≤ W5.heap.size by omega))
          clear own7 hb67 hb6 hb7 s1' s0' bc' bc TK SPX SP6
          go_loopw [59] (fun i wr => ∃ j : Nat, i = .int .i64 (j : Int) ∧ j ≤ mm ∧ wr.ownsRow rb 2 1 (.slice (some ⟨rb, 0, none⟩) mm mm) mm (Lw.intsV .i64 (Lw.mixL S (List.replicate mm 0) j)) ∧ wr.ownsRow (rb + 1) 57 2 (.slice C7 mm g7) mm (Lw.pairsV .i64 .i64 P) ∧ Below rb W5 wr) (fun i _ => mm - (intOf i).toNat)
          case atStart => exact ⟨0, rfl, by omega, by rw [Lw.mix_zero]; exact OW7.out, PO.out, HB7.out⟩
          case round =>
            obtain ⟨j, rfl, hj, own, own2, hX⟩ := hrel
            have hjm : j < mm ∨ ¬ j < mm := by omega
            rcases hjm with hjl | hjl
            · have hjl' : (j : Int) < (mm : Int) := by omega
              have jp : j < P.length := by omega
              have js : j < S.length := by omega
              obtain ⟨g0, g1⟩ := Lw.pairsV_get (k := .i64) (l := .i64) jp
              obtain ⟨pd, e1, hpd, d0, d1⟩ := (Lw.Rd.of_own own2).at2 hjl g0 g1
              subst e1
              rw [PG.out j jp] at d0 d1
              obtain ⟨r0, f0, _, hgl⟩ := Lw.own_cell (i := j) own (Lw.mix_get (by rw [ZL]; exact hjl) (by omega))
              have MS := Lw.mix_set js (by omega : S.length = (List.replicate mm (0 : Int)).length)
              rw [SG.out j hjl js] at MS
              obtain ⟨y, hy⟩ : ∃ y, Lw.hornV p (x :: Lw.takR rs used t) ((j : Int) + 1) = y := ⟨_, rfl⟩
              rw [hy] at MS d1
              have MS := Lib.hid MS
              have OWX := Lib.hid own
              have OWP := Lib.hid own2
              have HX := Lib.hid hX
              clear own own2 hX g0 g1 hy jp js
              simp only at d0 d1
              go_wp2_with fail
              go_roundw
              case rel => exact ⟨j + 1, by go_num, by omega, by rw [← MS.out]; exact (Lw.own_set OWX.out hjl).alloc _, (Lw.own_setk (k := rb) OWP.out (fun e => by have := (OWP.out.lt _ e).1; omega)).alloc _, (HX.out.setCell (p := ⟨rb, j, none⟩) (Nat.le_refl _) _).alloc (by simp; omega) _⟩
              case measure => simp [intOf]; omega
            · have hjl' : ¬ (j : Int) < (mm : Int) := by omega
              have hje : j = mm := by omega
              rw [hje, Lw.mix_all SL ZL] at own
              have OX := Lib.hid own
              have HX := Lib.hid hX
              have s0' := G0.out _ hX
              clear own own2 hX
              go_wp2_with fail
              go_loop [20] (fun i => ∃ j : Nat, i = .int .i64 (j : Int) ∧ j ≤ mm) (fun i => mm - (intOf i).toNat)
              case atStart => exact ⟨0, rfl, by omega⟩
              case round =>
                obtain ⟨j, rfl, hj⟩ := hrel
                have hjm : j < mm ∨ ¬ j < mm := by omega
                rcases hjm with hjl | hjl
                · have hjl' : (j : Int) < (mm : Int) := by omega
                  go_wp2_with fail
                  go_round
                  case rel => exact ⟨j + 1, by go_num, by omega⟩
                  case measure => simp [intOf]; omega
                · have hjl' : ¬ (j : Int) < (mm : Int) := by omega

                  have hTl : Below wr0.heap.size wr0 wr := HB5.out.trans (HX.out.mono (by omega))
                  have O9 := Lib.hid (Lw.ownsBelow OWN.out (Nat.le_refl _) hTl)
                  have B9 : Below w.heap.size w wr := Below.trans hB (hTl.mono hB.size)
                  have z9 := hTl.size
                  have ROW9 := Lib.hid (Lw.ownsBase OX.out (base' := w.heap.size) (by omega))
                  go_wp2_with (at_builtin; go_loud (refine Lw.wpList_app elRow rfl _ _ rfl rfl (O9.out.alloc _) rfl (by first | exact Lw.Rd.nil _ _ _ | exact Lw.Rd.lit (Lw.blk_new' (by simp) _ _) rfl rfl | exact Lw.Rd.lit (Lw.blk_alloc (Lw.blk_new' (by simp) _ _) _) rfl rfl) (Lw.row_one _ _ _) (by omega) (Lw.balloc B9 _) (Nat.le_refl _) (by simp; omega) ?_); intro v4 w4 own4 hb4 hg4 _)
                  have FIN : Hid (RfS w p t mm ins rs gs (k + 1) v4 w4) := rf_next tl OWN.out ROWS.out hTl ROW9.out NX.out PLk own4 hg4 hb4
                  clear own4 hg4
                  go_wp2
                  go_roundw
                  case rel => exact ⟨k + 1, by go_num, by omega, by (first | (rw [NX.out]; done) | (rw [NX.out]; rfl) | (rw [NX.out]; simp)), FIN.out⟩
                  case measure => simp [intOf]; omega

      · as_aux_lemma =>
          subst e
          have NX := NX.out
          rw [Lw.prG_const, ← HM.out] at NX
          have NL : (List.replicate mm N).length = mm := by simp
          have MS := Lib.hid (fun j (h : j < mm) => Lw.mix_set (a := List.replicate mm N) (b := List.replicate mm 0) (i := j) (by rw [NL]; exact h) (by simp))
          have NX := Lib.hid NX
          go_wp2_with fail
          go_loopw [20] (fun i wr => ∃ j : Nat, i = .int .i64 (j : Int) ∧ j ≤ mm ∧ wr.ownsRow rb 2 1 (.slice (some ⟨rb, 0, none⟩) mm mm) mm (Lw.intsV .i64 (Lw.mixL (List.replicate mm N) (List.replicate mm 0) j)) ∧ Below rb W5 wr) (fun i _ => mm - (intOf i).toNat)
          case atStart => exact ⟨0, rfl, by omega, by rw [Lw.mix_zero]; exact OW0.out, Below.refl _ _⟩
          case round =>
            obtain ⟨j, rfl, hj, own, hX⟩ := hrel
            have s0' := G0.out _ hX
            have s3' := G3.out _ hX
            have hjm : j < mm ∨ ¬ j < mm := by omega
            rcases hjm with hjl | hjl
            · have hjl' : (j : Int) < (mm : Int) := by omega
              obtain ⟨r0, f0, _, hgl⟩ := Lw.own_cell (i := j) own (Lw.mix_get (by rw [ZL]; exact hjl) (by simp))
              have MS := MS.out j hjl
              rw [List.getElem_replicate] at MS
              have MS := Lib.hid MS
              have OWX := Lib.hid own
              have HX := Lib.hid hX
              clear own hX
              go_wp2_with fail
              go_roundw
              case rel => exact ⟨j + 1, by go_num, by omega, by rw [← MS.out]; exact Lw.own_set OWX.out hjl, HX.out.setCell (p := ⟨rb, j, none⟩) (Nat.le_refl _) _⟩
              case measure => simp [intOf]; omega
            · have hjl' : ¬ (j : Int) < (mm : Int) := by omega
              have hje : j = mm := by omega
              rw [hje, Lw.mix_all NL ZL] at own
              have OX := Lib.hid own
              have HX := Lib.hid hX
              clear own hX
              have hTl : Below wr0.heap.size wr0 wr := HB5.out.trans (HX.out.mono (by omega))
              have O9 := Lib.hid (Lw.ownsBelow OWN.out (Nat.le_refl _) hTl)
              have B9 : Below w.heap.size w wr := Below.trans hB (hTl.mono hB.size)
              have z9 := hTl.size
              have ROW9 := Lib.hid (Lw.ownsBase OX.out (base' := w.heap.size) (by omega))
              go_wp2_with (at_builtin; go_loud (refine Lw.wpList_app elRow rfl _ _ rfl rfl (O9.out.alloc _) rfl (by first | exact Lw.Rd.nil _ _ _ | exact Lw.Rd.lit (Lw.blk_new' (by simp) _ _) rfl rfl | exact Lw.Rd.lit (Lw.blk_alloc (Lw.blk_new' (by simp) _ _) _) rfl rfl) (Lw.row_one _ _ _) (by omega) (Lw.balloc B9 _) (Nat.le_refl _) (by simp; omega) ?_); intro v4 w4 own4 hb4 hg4 _)
              have FIN : Hid (RfS w p t mm ins rs gs (k + 1) v4 w4) := rf_next tl OWN.out ROWS.out hTl ROW9.out NX.out PLk own4 hg4 hb4
              clear own4 hg4
              go_wp2
              go_roundw
              case rel => exact ⟨k + 1, by go_num, by omega, by (first | (rw [NX.out]; done) | (rw [NX.out]; rfl) | (rw [NX.out]; simp)), FIN.out⟩
              case measure => simp [intOf]; omega

      · as_aux_lemma =>
          subst e
          have NX := NX.out
          rw [Lw.prG_add] at NX
          obtain ⟨s, rfl⟩ := Int.eq_ofNat_of_zero_le h1
          obtain ⟨v, rfl⟩ := Int.eq_ofNat_of_zero_le h3
          have sl : s < T.length := by omega
          have vl : v < T.length := by omega
          have own := OWN.out
          obtain ⟨CL, gL, rfl, hg, _, _⟩ := Lw.ownsForm own
          obtain ⟨g0, rfl⟩ : ∃ g0, CL = some ⟨g0, 0, none⟩ := by
            rcases own.2 with ⟨h0, h0'⟩ | ⟨g0, cap, cur, hv, _⟩
            · omega
            · injection hv with e1; exact ⟨g0, e1⟩
          have hg1 : g0 < wr0.heap.size := Lw.own_lt' own rfl
          have gs' : (T.map (Lw.rowV mm))[s]? = some (Lw.rowV mm T[s]) := by rw [List.getElem?_map, List.getElem?_eq_getElem sl]; rfl
          have gv' : (T.map (Lw.rowV mm))[v]? = some (Lw.rowV mm T[v]) := by rw [List.getElem?_map, List.getElem?_eq_getElem vl]; rfl
          obtain ⟨c4, _, _, _⟩ := Lw.own_cell (i := s) own gs'
          obtain ⟨c5, _, _, _⟩ := Lw.own_cell (i := v) own gv'
          have rs1 := ROWS.out s sl
          have rv1 := ROWS.out v vl
          rw [Int.toNat_natCast, Int.toNat_natCast] at NX
          have RS1 := PRK.out ((Lw.prT p t ins rs gs k).1.getD s []) (by rw [Lw.getD_at'' (by omega)]; exact List.getElem_mem _)
          have RV1 := PRK.out ((Lw.prT p t ins rs gs k).1.getD v []) (by rw [Lw.getD_at'' (by omega)]; exact List.getElem_mem _)
          obtain ⟨xs, hxs⟩ : ∃ z, (Lw.prT p t ins rs gs k).1.getD s [] = z := ⟨_, rfl⟩
          obtain ⟨ys, hys⟩ : ∃ z, (Lw.prT p t ins rs gs k).1.getD v [] = z := ⟨_, rfl⟩
          obtain ⟨⟨As, cs⟩, hTs⟩ : ∃ z, T[s] = z := ⟨_, rfl⟩
          obtain ⟨⟨Av, cv⟩, hTv⟩ : ∃ z, T[v] = z := ⟨_, rfl⟩
          simp only [hxs, hys, hTs, hTv, Lw.rowV] at c4 c5 rs1 rv1 RS1 RV1 NX
          obtain ⟨lx, bx⟩ := RS1
          obtain ⟨ly, by'⟩ := RV1
          rw [← HM.out] at lx ly
          have sk : (s : Int) < (k : Int) := by omega
          have vk : (v : Int) < (k : Int) := by omega
          have SS := Lib.hid (fun w' (h : Below rb W5 w') => show w'.cell? ⟨gb, 1, none⟩ = some (.int .i64 (s : Int)) ∧ w'.cell? ⟨gb, 2, none⟩ = some (.int .i64 (v : Int)) ∧ w'.cell? ⟨g0, s, none⟩ = some (.slice As mm cs) ∧ w'.cell? ⟨g0, v, none⟩ = some (.slice Av mm cv) from ⟨G1.out w' h, G2.out w' h, ((h.cell (p := ⟨g0, s, none⟩) (show g0 < rb by omega)).trans (HB5.out.cell (p := ⟨g0, s, none⟩) hg1)).trans c4, ((h.cell (p := ⟨g0, v, none⟩) (show g0 < rb by omega)).trans (HB5.out.cell (p := ⟨g0, v, none⟩) hg1)).trans c5⟩)
          have XS := Lib.hid (fun i (h : i < mm) => show ∃ ad, As = some ad ∧ ∀ w', Below rb W5 w' → w'.cell? (ad.add i) = some (.int .i64 (xs.getD i 0)) ∧ (ad.add i).block < w'.heap.size from by
            obtain ⟨ad, e, had, hc⟩ := (Lw.Rd.of_own rs1).at1 h (Lw.intsV_get (by omega : i < xs.length))
            refine ⟨ad, e, fun w' hw => ?_⟩
            have hb0 : (ad.add i).block < wr0.heap.size := by rw [Lw.add_block]; exact had
            exact ⟨by rw [Lw.getD_at' (by omega : i < xs.length)]; exact ((hw.cell (p := ad.add i) (by omega)).trans (HB5.out.cell (p := ad.add i) hb0)).trans hc, by have := hw.size; omega⟩)
          have YS := Lib.hid (fun i (h : i < mm) => show ∃ ad, Av = some ad ∧ ∀ w', Below rb W5 w' → w'.cell? (ad.add i) = some (.int .i64 (ys.getD i 0)) ∧ (ad.add i).block < w'.heap.size from by
            obtain ⟨ad, e, had, hc⟩ := (Lw.Rd.of_own rv1).at1 h (Lw.intsV_get (by omega : i < ys.length))
            refine ⟨ad, e, fun w' hw => ?_⟩
            have hb0 : (ad.add i).block < wr0.heap.size := by rw [Lw.add_block]; exact had
            exact ⟨by rw [Lw.getD_at' (by omega : i < ys.length)]; exact ((hw.cell (p := ad.add i) (by omega)).trans (HB5.out.cell (p := ad.add i) hb0)).trans hc, by have := hw.size; omega⟩)
          have BX := Lib.hid (fun i (h : i < mm) => show 0 ≤ xs.getD i 0 ∧ xs.getD i 0 < p from by rw [Lw.getD_at' (by omega : i < xs.length)]; exact bx _ (List.getElem_mem _))
          have BY := Lib.hid (fun i (h : i < mm) => show 0 ≤ ys.getD i 0 ∧ ys.getD i 0 < p from by rw [Lw.getD_at' (by omega : i < ys.length)]; exact by' _ (List.getElem_mem _))
          clear own rs1 rv1 gs' gv' hxs hys hTs hTv sl vl bx by' c4 c5 hg
          have EG := Lib.hid (fun j (h : j < mm) => Lw.eaL_get (p := p) (f := fun x y => x + y) (a := xs) (b := ys) (i := j) (by omega))
          have EL := Lw.eaL_len p (fun x y => x + y) xs ys
          obtain ⟨S, hS⟩ : ∃ S, Lw.eaL p (fun x y => x + y) xs ys = S := ⟨_, rfl⟩
          have SG : Hid (∀ j (h : j < mm) (h2 : j < S.length), S[j] = (xs.getD j 0 + ys.getD j 0) % p) := Lib.hid (fun j h h2 => by subst hS; exact EG.out j h)
          simp only [hS] at NX EL
          have SL : S.length = mm := by omega
          have NX := Lib.hid NX
          clear hS EG EL
          go_wp2_with fail
          go_loopw [20] (fun i wr => ∃ j : Nat, i = .int .i64 (j : Int) ∧ j ≤ mm ∧ wr.ownsRow rb 2 1 (.slice (some ⟨rb, 0, none⟩) mm mm) mm (Lw.intsV .i64 (Lw.mixL S (List.replicate mm 0) j)) ∧ Below rb W5 wr) (fun i _ => mm - (intOf i).toNat)
          case atStart => exact ⟨0, rfl, by omega, by rw [Lw.mix_zero]; exact OW0.out, Below.refl _ _⟩
          case round =>
            obtain ⟨j, rfl, hj, own, hX⟩ := hrel
            have s0' := G0.out _ hX
            have hjm : j < mm ∨ ¬ j < mm := by omega
            rcases hjm with hjl | hjl
            · have hjl' : (j : Int) < (mm : Int) := by omega
              have js : j < S.length := by omega
              obtain ⟨r0, f0, _, hgl⟩ := Lw.own_cell (i := j) own (Lw.mix_get (by rw [ZL]; exact hjl) (by omega))
              have MS := Lw.mix_set js (by omega : S.length = (List.replicate mm (0 : Int)).length)
              rw [SG.out j hjl js] at MS
              obtain ⟨pa, rfl, hpa⟩ := XS.out j hjl
              obtain ⟨pb, rfl, hpb⟩ := YS.out j hjl
              obtain ⟨x0, x1⟩ := BX.out j hjl
              obtain ⟨y0, y1⟩ := BY.out j hjl
              obtain ⟨x, hx⟩ : ∃ x, xs.getD j 0 = x := ⟨_, rfl⟩
              obtain ⟨y, hy⟩ : ∃ y, ys.getD j 0 = y := ⟨_, rfl⟩
              rw [hx, hy] at MS
              rw [hx] at hpa x0 x1
              rw [hy] at hpb y0 y1
              have e1 : IntKind.i64.wrap (x + y) = x + y := by rw [IntKind.wrap_i64]; omega
              have e2 : (x + y).tmod p = (x + y) % p := Int.tmod_eq_emod_of_nonneg (by omega)
              have p0 : ¬ p = 0 := by omega
              have MS := Lib.hid MS
              have OWX := Lib.hid own
              have HX := Lib.hid hX
              have S6 := Lib.hid (fun w' (h : Below rb W5 w') => show w'.cell? ⟨gb, 1, none⟩ = some (.int .i64 (s : Int)) ∧ w'.cell? ⟨gb, 2, none⟩ = some (.int .i64 (v : Int)) ∧ w'.cell? ⟨g0, s, none⟩ = some (.slice (some pa) mm cs) ∧ (w'.cell? ⟨g0, v, none⟩ = some (.slice (some pb) mm cv) ∧ w'.cell? (pa.add j) = some (.int .i64 x) ∧ w'.cell? (pb.add j) = some (.int .i64 y)) from ⟨(SS.out w' h).1, (SS.out w' h).2.1, (SS.out w' h).2.2.1, (SS.out w' h).2.2.2, (hpa w' h).1, (hpb w' h).1⟩)
              have HPA := Lib.hid hpa
              have HPB := Lib.hid hpb
              clear own hX hx hy hpa hpb
              go_wp2_with fail
              refine wp_region_held_drew (S := fun w' => w'.cell? ⟨gb, 1, none⟩ = some (.int .i64 (s : Int)) ∧ w'.cell? ⟨gb, 2, none⟩ = some (.int .i64 (v : Int)) ∧ w'.cell? ⟨g0, s, none⟩ = some (.slice (some pa) mm cs) ∧ (w'.cell? ⟨g0, v, none⟩ = some (.slice (some pb) mm cv) ∧ w'.cell? (pa.add j) = some (.int .i64 x) ∧ w'.cell? (pb.add j) = some (.int .i64 y))) (by kernel_rfl) (by exact S6.out _ HX.out.drew) (fun hHeld => ?_)
              (refine Lw.take1 (i := 0) (v := ?_) rfl (by kernel_rfl) (by kernel_rfl) (by kernel_rfl) (fun _ _ _ h => h) (Or.inl ⟨by rfl, ?_⟩) (by assumption) ?_; rotate_left 1; (focus (intro wS hSw; obtain ⟨hS1, hS2, hS3, hS4⟩ := hSw; go_simp <;> with_reducible rfl)); (try simp only [Act.put, List.setIfInBounds_toArray, List.set_cons_zero, List.set_cons_succ]))
              (refine Lw.take1 (i := 1) (v := ?_) rfl (by kernel_rfl) (by kernel_rfl) (by kernel_rfl) (fun _ _ _ h => h) (Or.inl ⟨by rfl, ?_⟩) (by assumption) ?_; rotate_left 1; (focus (intro wS hSw; obtain ⟨hS1, hS2, hS3, hS4⟩ := hSw; go_simp <;> with_reducible rfl)); (try simp only [Act.put, List.setIfInBounds_toArray, List.set_cons_zero, List.set_cons_succ]))
              (refine Lw.take1 (i := 2) (v := ?_) rfl (by kernel_rfl) (by kernel_rfl) (by kernel_rfl) (fun _ _ _ h => h) (Or.inl ⟨by rfl, ?_⟩) (by assumption) ?_; rotate_left 1; (focus (intro wS hSw; obtain ⟨hS1, hS2, hS3, hS4⟩ := hSw; go_simp <;> with_reducible rfl)); (try simp only [Act.put, List.setIfInBounds_toArray, List.set_cons_zero, List.set_cons_succ]))
              (refine Lw.take1 (i := 3) (v := ?_) rfl (by kernel_rfl) (by kernel_rfl) (by kernel_rfl) (fun _ _ _ h => h) (Or.inl ⟨by rfl, ?_⟩) (by assumption) ?_; rotate_left 1; (focus (intro wS hSw; obtain ⟨hS1, hS2, hS3, hS4⟩ := hSw; go_simp <;> with_reducible rfl)); (try simp only [Act.put, List.setIfInBounds_toArray, List.set_cons_zero, List.set_cons_succ]))
              (refine Lw.take1 (i := 4) (v := ?_) rfl (by kernel_rfl) (by kernel_rfl) (by kernel_rfl) (fun _ _ _ h => h) (Or.inl ⟨by rfl, ?_⟩) (by assumption) ?_; rotate_left 1; (focus (intro wS hSw; obtain ⟨hS1, hS2, hS3, hS4⟩ := hSw; go_simp <;> with_reducible rfl)); (try simp only [Act.put, List.setIfInBounds_toArray, List.set_cons_zero, List.set_cons_succ]))
              (refine Lw.take1 (i := 5) (v := ?_) rfl (by kernel_rfl) (by kernel_rfl) (by kernel_rfl) (fun _ _ _ h => h) (Or.inl ⟨by rfl, ?_⟩) (by assumption) ?_; rotate_left 1; (focus (intro wS hSw; obtain ⟨hS1, hS2, hS3, hS4⟩ := hSw; go_simp <;> with_reducible rfl)); (try simp only [Act.put, List.setIfInBounds_toArray, List.set_cons_zero, List.set_cons_succ]))
              (refine Lw.take1 (i := 6) (v := ?_) rfl (by kernel_rfl) (by kernel_rfl) (by kernel_rfl) (fun _ _ _ h => h) (Or.inl ⟨by rfl, ?_⟩) (by assumption) ?_; rotate_left 1; (focus (intro wS hSw; obtain ⟨hS1, hS2, hS3, hS4⟩ := hSw; go_simp <;> with_reducible rfl)); (try simp only [Act.put, List.setIfInBounds_toArray, List.set_cons_zero, List.set_cons_succ]))
              (refine Lw.take1 (i := 7) (v := ?_) rfl (by kernel_rfl) (by kernel_rfl) (by kernel_rfl) (fun _ _ _ h => h) (Or.inl ⟨by rfl, ?_⟩) (by assumption) ?_; rotate_left 1; (focus (intro wS hSw; obtain ⟨hS1, hS2, hS3, hS4⟩ := hSw; go_simp <;> with_reducible rfl)); (try simp only [Act.put, List.setIfInBounds_toArray, List.set_cons_zero, List.set_cons_succ]))
              (refine Lw.take1 (i := 8) (v := ?_) rfl (by kernel_rfl) (by kernel_rfl) (by kernel_rfl) (fun _ _ _ h => h) (Or.inl ⟨by rfl, ?_⟩) (by assumption) ?_; rotate_left 1; (focus (intro wS hSw; obtain ⟨hS1, hS2, hS3, hS4⟩ := hSw; go_simp <;> with_reducible rfl)); (try simp only [Act.put, List.setIfInBounds_toArray, List.set_cons_zero, List.set_cons_succ]))
              (refine Lw.take1 (i := 9) (v := ?_) rfl (by kernel_rfl) (by kernel_rfl) (by kernel_rfl) (fun _ _ _ h => h) (Or.inl ⟨by rfl, ?_⟩) (by assumption) ?_; rotate_left 1; (focus (intro wS hSw; obtain ⟨hS1, hS2, hS3, hS4⟩ := hSw; go_simp <;> with_reducible rfl)); (try simp only [Act.put, List.setIfInBounds_toArray, List.set_cons_zero, List.set_cons_succ]))
              (refine Lw.take1 (i := 10) (v := ?_) rfl (by kernel_rfl) (by kernel_rfl) (by kernel_rfl) (fun _ _ _ h => h) (Or.inl ⟨by rfl, ?_⟩) (by assumption) ?_; rotate_left 1; (focus (intro wS hSw; obtain ⟨hS1, hS2, hS3, hS4⟩ := hSw; go_simp <;> with_reducible rfl)); (try simp only [Act.put, List.setIfInBounds_toArray, List.set_cons_zero, List.set_cons_succ]))
              (refine Lw.take1 (i := 11) (v := ?_) rfl (by kernel_rfl) (by kernel_rfl) (by kernel_rfl) (fun _ _ _ h => h) (Or.inl ⟨by rfl, ?_⟩) (by assumption) ?_; rotate_left 1; (focus (intro wS hSw; obtain ⟨hS1, hS2, hS3, hS4⟩ := hSw; go_simp <;> with_reducible rfl)); (try simp only [Act.put, List.setIfInBounds_toArray, List.set_cons_zero, List.set_cons_succ]))
              (refine Lw.take1 (i := 12) (v := ?_) rfl (by kernel_rfl) (by kernel_rfl) (by kernel_rfl) (fun _ _ _ h => h) (Or.inl ⟨by rfl, ?_⟩) (by assumption) ?_; rotate_left 1; (focus (intro wS hSw; obtain ⟨hS1, hS2, hS3, hS4⟩ := hSw; go_simp <;> with_reducible rfl)); (try simp only [Act.put, List.setIfInBounds_toArray, List.set_cons_zero, List.set_cons_succ]))
              (refine Lw.take1 (i := 13) (v := ?_) rfl (by kernel_rfl) (by kernel_rfl) (by kernel_rfl) (fun _ _ _ h => h) (Or.inl ⟨by rfl, ?_⟩) (by assumption) ?_; rotate_left 1; (focus (intro wS hSw; obtain ⟨hS1, hS2, hS3, hS4⟩ := hSw; go_simp <;> with_reducible rfl)); (try simp only [Act.put, List.setIfInBounds_toArray, List.set_cons_zero, List.set_cons_succ]))
              (refine Lw.take1 (i := 14) (v := ?_) rfl (by kernel_rfl) (by kernel_rfl) (by kernel_rfl) (fun _ _ _ h => h) (Or.inl ⟨by rfl, ?_⟩) (by assumption) ?_; rotate_left 1; (focus (intro wS hSw; obtain ⟨hS1, hS2, hS3, hS4⟩ := hSw; go_simp <;> with_reducible rfl)); (try simp only [Act.put, List.setIfInBounds_toArray, List.set_cons_zero, List.set_cons_succ]))
              (refine Lw.take1 (i := 15) (v := ?_) rfl (by kernel_rfl) (by kernel_rfl) (by kernel_rfl) (fun _ _ _ h => h) (Or.inl ⟨by rfl, ?_⟩) (by assumption) ?_; rotate_left 1; (focus (intro wS hSw; obtain ⟨hS1, hS2, hS3, hS4⟩ := hSw; go_simp <;> with_reducible rfl)); (try simp only [Act.put, List.setIfInBounds_toArray, List.set_cons_zero, List.set_cons_succ]))
              (refine Lw.take1 (i := 16) (v := ?_) rfl (by kernel_rfl) (by kernel_rfl) (by kernel_rfl) (fun _ _ _ h => h) (Or.inl ⟨by rfl, ?_⟩) (by assumption) ?_; rotate_left 1; (focus (intro wS hSw; obtain ⟨hS1, hS2, hS3, hS4⟩ := hSw; go_simp <;> with_reducible rfl)); (try simp only [Act.put, List.setIfInBounds_toArray, List.set_cons_zero, List.set_cons_succ]))
              (refine Lw.take1 (i := 17) (v := ?_) rfl (by kernel_rfl) (by kernel_rfl) (by kernel_rfl) (fun _ _ _ h => h) (Or.inl ⟨by rfl, ?_⟩) (by assumption) ?_; rotate_left 1; (focus (intro wS hSw; obtain ⟨hS1, hS2, hS3, hS4⟩ := hSw; go_simp <;> with_reducible rfl)); (try simp only [Act.put, List.setIfInBounds_toArray, List.set_cons_zero, List.set_cons_succ]))
              (refine Lw.take1 (i := 18) (v := ?_) rfl (by kernel_rfl) (by kernel_rfl) (by kernel_rfl) (fun _ _ _ h => h) (Or.inl ⟨by rfl, ?_⟩) (by assumption) ?_; rotate_left 1; (focus (intro wS hSw; obtain ⟨hS1, hS2, hS3, hS4⟩ := hSw; go_simp <;> with_reducible rfl)); (try simp only [Act.put, List.setIfInBounds_toArray, List.set_cons_zero, List.set_cons_succ]))
              (refine Lw.take1 (i := 19) (v := ?_) rfl (by kernel_rfl) (by kernel_rfl) (by kernel_rfl) (fun _ _ _ h => h) (Or.inl ⟨by rfl, ?_⟩) (by assumption) ?_; rotate_left 1; (focus (intro wS hSw; obtain ⟨hS1, hS2, hS3, hS4⟩ := hSw; go_simp <;> with_reducible rfl)); (try simp only [Act.put, List.setIfInBounds_toArray, List.set_cons_zero, List.set_cons_succ]))
              (refine Lw.take1 (i := 20) (v := ?_) rfl (by kernel_rfl) (by kernel_rfl) (by kernel_rfl) (fun _ _ _ h => h) (Or.inl ⟨by rfl, ?_⟩) (by assumption) ?_; rotate_left 1; (focus (intro wS hSw; obtain ⟨hS1, hS2, hS3, hS4⟩ := hSw; go_simp <;> with_reducible rfl)); (try simp only [Act.put, List.setIfInBounds_toArray, List.set_cons_zero, List.set_cons_succ]))
              (refine Lw.take1 (i := 21) (v := ?_) rfl (by kernel_rfl) (by kernel_rfl) (by kernel_rfl) (fun _ _ _ h => h) (Or.inl ⟨by rfl, ?_⟩) (by assumption) ?_; rotate_left 1; (focus (intro wS hSw; obtain ⟨hS1, hS2, hS3, hS4⟩ := hSw; go_simp <;> with_reducible rfl)); (try simp only [Act.put, List.setIfInBounds_toArray, List.set_cons_zero, List.set_cons_succ]))
              have r0' : wr.drew.cell? ⟨rb, j, none⟩ = some (.int .i64 ((List.replicate mm (0 : Int))[j]'(by rw [ZL]; exact hjl))) := r0
              have f0' : wr.drew.frozen? ⟨rb, j, none⟩ = false := f0
              (refine wpAnyH_ready (rs := [22]) (by kernel_rfl) (by simp) ?_; refine Lw.cons1 (i := 22) rfl (fun K hK => ?_) AllReadyH.nil; go_simp; refine hK.out _ _ ?_ (fun hHeld => ?_); (focus exact S6.out _ (HX.out.drew.setCell (p := ⟨rb, j, none⟩) (Nat.le_refl _) _)); clear hK K; (try simp only [Act.put, List.setIfInBounds_toArray, List.set_cons_zero, List.set_cons_succ]))
              refine wpAnyH_done (by kernel_rfl) ?_ _
              go_wp2
              go_roundw
              case rel => exact ⟨j + 1, by go_num, by omega, by rw [← MS.out]; exact Lw.own_set (Lw.own_drew OWX.out) hjl, HX.out.drew.setCell (p := ⟨rb, j, none⟩) (Nat.le_refl _) _⟩
              case measure => simp [intOf]; omega
            · have hjl' : ¬ (j : Int) < (mm : Int) := by omega
              have hje : j = mm := by omega
              rw [hje, Lw.mix_all SL ZL] at own
              have OX := Lib.hid own
              have HX := Lib.hid hX
              clear own hX
              have hTl : Below wr0.heap.size wr0 wr := HB5.out.trans (HX.out.mono (by omega))
              have O9 := Lib.hid (Lw.ownsBelow OWN.out (Nat.le_refl _) hTl)
              have B9 : Below w.heap.size w wr := Below.trans hB (hTl.mono hB.size)
              have z9 := hTl.size
              have ROW9 := Lib.hid (Lw.ownsBase OX.out (base' := w.heap.size) (by omega))
              go_wp2_with (at_builtin; go_loud (refine Lw.wpList_app elRow rfl _ _ rfl rfl (O9.out.alloc _) rfl (by first | exact Lw.Rd.nil _ _ _ | exact Lw.Rd.lit (Lw.blk_new' (by simp) _ _) rfl rfl | exact Lw.Rd.lit (Lw.blk_alloc (Lw.blk_new' (by simp) _ _) _) rfl rfl) (Lw.row_one _ _ _) (by omega) (Lw.balloc B9 _) (Nat.le_refl _) (by simp; omega) ?_); intro v4 w4 own4 hb4 hg4 _)
              have FIN : Hid (RfS w p t mm ins rs gs (k + 1) v4 w4) := rf_next tl OWN.out ROWS.out hTl ROW9.out NX.out PLk own4 hg4 hb4
              clear own4 hg4
              go_wp2
              go_roundw
              case rel => exact ⟨k + 1, by go_num, by omega, by (first | (rw [NX.out]; done) | (rw [NX.out]; rfl) | (rw [NX.out]; simp)), FIN.out⟩
              case measure => simp [intOf]; omega

      · as_aux_lemma =>
          subst e
          have NX := NX.out
          rw [Lw.prG_mul] at NX
          obtain ⟨s, rfl⟩ := Int.eq_ofNat_of_zero_le h1
          obtain ⟨v, rfl⟩ := Int.eq_ofNat_of_zero_le h3
          have sl : s < T.length := by omega
          have vl : v < T.length := by omega
          have own := OWN.out
          obtain ⟨CL, gL, rfl, hg, _, _⟩ := Lw.ownsForm own
          obtain ⟨g0, rfl⟩ : ∃ g0, CL = some ⟨g0, 0, none⟩ := by
            rcases own.2 with ⟨h0, h0'⟩ | ⟨g0, cap, cur, hv, _⟩
            · omega
            · injection hv with e1; exact ⟨g0, e1⟩
          have hg1 : g0 < wr0.heap.size := Lw.own_lt' own rfl
          have gs' : (T.map (Lw.rowV mm))[s]? = some (Lw.rowV mm T[s]) := by rw [List.getElem?_map, List.getElem?_eq_getElem sl]; rfl
          have gv' : (T.map (Lw.rowV mm))[v]? = some (Lw.rowV mm T[v]) := by rw [List.getElem?_map, List.getElem?_eq_getElem vl]; rfl
          obtain ⟨c4, _, _, _⟩ := Lw.own_cell (i := s) own gs'
          obtain ⟨c5, _, _, _⟩ := Lw.own_cell (i := v) own gv'
          have rs1 := ROWS.out s sl
          have rv1 := ROWS.out v vl
          rw [Int.toNat_natCast, Int.toNat_natCast] at NX
          have RS1 := PRK.out ((Lw.prT p t ins rs gs k).1.getD s []) (by rw [Lw.getD_at'' (by omega)]; exact List.getElem_mem _)
          have RV1 := PRK.out ((Lw.prT p t ins rs gs k).1.getD v []) (by rw [Lw.getD_at'' (by omega)]; exact List.getElem_mem _)
          obtain ⟨xs, hxs⟩ : ∃ z, (Lw.prT p t ins rs gs k).1.getD s [] = z := ⟨_, rfl⟩
          obtain ⟨ys, hys⟩ : ∃ z, (Lw.prT p t ins rs gs k).1.getD v [] = z := ⟨_, rfl⟩
          obtain ⟨⟨As, cs⟩, hTs⟩ : ∃ z, T[s] = z := ⟨_, rfl⟩
          obtain ⟨⟨Av, cv⟩, hTv⟩ : ∃ z, T[v] = z := ⟨_, rfl⟩
          simp only [hxs, hys, hTs, hTv, Lw.rowV] at c4 c5 rs1 rv1 RS1 RV1 NX
          obtain ⟨lx, bx⟩ := RS1
          obtain ⟨ly, by'⟩ := RV1
          rw [← HM.out] at lx ly
          have sk : (s : Int) < (k : Int) := by omega
          have vk : (v : Int) < (k : Int) := by omega
          have SS := Lib.hid (fun w' (h : Below rb W5 w') => show w'.cell? ⟨gb, 1, none⟩ = some (.int .i64 (s : Int)) ∧ w'.cell? ⟨gb, 2, none⟩ = some (.int .i64 (v : Int)) ∧ w'.cell? ⟨g0, s, none⟩ = some (.slice As mm cs) ∧ w'.cell? ⟨g0, v, none⟩ = some (.slice Av mm cv) from ⟨G1.out w' h, G2.out w' h, ((h.cell (p := ⟨g0, s, none⟩) (show g0 < rb by omega)).trans (HB5.out.cell (p := ⟨g0, s, none⟩) hg1)).trans c4, ((h.cell (p := ⟨g0, v, none⟩) (show g0 < rb by omega)).trans (HB5.out.cell (p := ⟨g0, v, none⟩) hg1)).trans c5⟩)
          have XS := Lib.hid (fun i (h : i < mm) => show ∃ ad, As = some ad ∧ ∀ w', Below rb W5 w' → w'.cell? (ad.add i) = some (.int .i64 (xs.getD i 0)) ∧ (ad.add i).block < w'.heap.size from by
            obtain ⟨ad, e, had, hc⟩ := (Lw.Rd.of_own rs1).at1 h (Lw.intsV_get (by omega : i < xs.length))
            refine ⟨ad, e, fun w' hw => ?_⟩
            have hb0 : (ad.add i).block < wr0.heap.size := by rw [Lw.add_block]; exact had
            exact ⟨by rw [Lw.getD_at' (by omega : i < xs.length)]; exact ((hw.cell (p := ad.add i) (by omega)).trans (HB5.out.cell (p := ad.add i) hb0)).trans hc, by have := hw.size; omega⟩)
          have YS := Lib.hid (fun i (h : i < mm) => show ∃ ad, Av = some ad ∧ ∀ w', Below rb W5 w' → w'.cell? (ad.add i) = some (.int .i64 (ys.getD i 0)) ∧ (ad.add i).block < w'.heap.size from by
            obtain ⟨ad, e, had, hc⟩ := (Lw.Rd.of_own rv1).at1 h (Lw.intsV_get (by omega : i < ys.length))
            refine ⟨ad, e, fun w' hw => ?_⟩
            have hb0 : (ad.add i).block < wr0.heap.size := by rw [Lw.add_block]; exact had
            exact ⟨by rw [Lw.getD_at' (by omega : i < ys.length)]; exact ((hw.cell (p := ad.add i) (by omega)).trans (HB5.out.cell (p := ad.add i) hb0)).trans hc, by have := hw.size; omega⟩)
          have BX := Lib.hid (fun i (h : i < mm) => show 0 ≤ xs.getD i 0 ∧ xs.getD i 0 < p from by rw [Lw.getD_at' (by omega : i < xs.length)]; exact bx _ (List.getElem_mem _))
          have BY := Lib.hid (fun i (h : i < mm) => show 0 ≤ ys.getD i 0 ∧ ys.getD i 0 < p from by rw [Lw.getD_at' (by omega : i < ys.length)]; exact by' _ (List.getElem_mem _))
          clear own rs1 rv1 gs' gv' hxs hys hTs hTv sl vl bx by' c4 c5 hg
          have EL := Lw.eaL_len p (fun x y => x * y) xs ys
          have EG := Lib.hid (fun i (h : i < mm) => Lw.eaL_getD (p := p) (f := fun x y => x * y) (a := xs) (b := ys) (i := i) (by omega))
          rw [← HM.out] at NX
          obtain ⟨prod, hprod⟩ : ∃ S, Lw.eaL p (fun x y => x * y) xs ys = S := ⟨_, rfl⟩
          rw [hprod] at NX EG EL
          have NX := Lib.hid NX
          have ML := Lib.hid (fun i => Lw.mulS_len p mm t rs prod used i)
          have MB := Lib.hid (fun i q h => Lw.mulS_bdD (p := p) (by omega) (n := mm) (t := t) (random := rs) (prod := prod) (used := used) (i := i) (q := q) h)
          have MG := Lib.hid (fun i q h => Lw.mulS_get (p := p) (n := mm) (t := t) (random := rs) (prod := prod) (used := used) (i := i) (q := q) h)
          have M0 : Hid (Lw.mulS p mm t rs prod used 0 = List.replicate mm 0) := rfl
          have p0 : ¬ p = 0 := by omega
          clear hprod
          go_wp2_with fail
          go_loop [20] (fun i => ∃ j : Nat, i = .int .i64 (j : Int) ∧ j ≤ mm) (fun i => mm - (intOf i).toNat)
          case atStart => exact ⟨0, rfl, by omega⟩
          case round =>
            obtain ⟨j, rfl, hj⟩ := hrel
            have hjm : j < mm ∨ ¬ j < mm := by omega
            rcases hjm with hjl | hjl
            · have hjl' : (j : Int) < (mm : Int) := by omega
              go_wp2_with fail
              go_round
              case rel => exact ⟨j + 1, by go_num, by omega⟩
              case measure => simp [intOf]; omega
            · have hjl' : ¬ (j : Int) < (mm : Int) := by omega

              go_wp2_with fail
              clear hjl hjl' hj
              go_loopw [12, 21] (fun us v wr => ∃ i : Nat, v = .int .i64 (i : Int) ∧ i ≤ mm ∧ us = .int .i64 ((used + i * t : Nat) : Int) ∧ wr.ownsRow rb 2 1 (.slice (some ⟨rb, 0, none⟩) mm mm) mm (Lw.intsV .i64 (Lw.mulS p mm t rs prod used i)) ∧ Below rb W5 wr) (fun _ v _ => mm - (intOf v).toNat)
              case atStart => exact ⟨0, rfl, by omega, by simp, by rw [M0.out]; exact OW0.out, Below.refl _ _⟩
              case round =>
                obtain ⟨i, rfl, hi, rfl, own, hX⟩ := hrel
                obtain ⟨w1, hw1⟩ : ∃ w1, w1 = wr := ⟨_, rfl⟩
                subst hw1
                have him : i < mm ∨ ¬ i < mm := by omega
                rcases him with hil | hil
                · have hil' : (i : Int) < (mm : Int) := by omega
                  have hu0 : i * t ≤ 9 * 4 := Nat.mul_le_mul (by omega) t4
                  have hu2 : used + (i + 1) * t = used + i * t + t := by rw [Nat.succ_mul]; omega
                  have SG := Lib.hid (fun q (h : q < mm) => MG.out i q h)
                  have S0L := ML.out i
                  have S1L := ML.out (i + 1)
                  have S0B := Lib.hid (fun q (h : q < mm) => MB.out i q h)
                  have PI := EG.out i hil
                  obtain ⟨u, hu⟩ : ∃ u, used + i * t = u := ⟨_, rfl⟩
                  rw [hu] at hu2 SG
                  rw [hu]
                  obtain ⟨S0, hS0⟩ : ∃ S, Lw.mulS p mm t rs prod used i = S := ⟨_, rfl⟩
                  obtain ⟨S1, hS1⟩ : ∃ S, Lw.mulS p mm t rs prod used (i + 1) = S := ⟨_, rfl⟩
                  simp only [hS0, hS1] at SG S0L S1L S0B own
                  have HS1 := Lib.hid hS1
                  obtain ⟨pa, rfl, hpa⟩ := XS.out i hil
                  obtain ⟨pb, rfl, hpb⟩ := YS.out i hil
                  obtain ⟨x0, x1⟩ := BX.out i hil
                  obtain ⟨y0, y1⟩ := BY.out i hil
                  obtain ⟨x, hx⟩ : ∃ x, xs.getD i 0 = x := ⟨_, rfl⟩
                  obtain ⟨y, hy⟩ : ∃ y, ys.getD i 0 = y := ⟨_, rfl⟩
                  rw [hx] at hpa x0 x1
                  rw [hy] at hpb y0 y1
                  rw [hx, hy] at PI
                  rw [PI] at SG
                  obtain ⟨m1, m2⟩ := Lw.mul_bd' x y 251 x0 (by omega) y0 (by omega)
                  have e1 : IntKind.i64.wrap (x * y) = x * y := by rw [IntKind.wrap_i64]; omega
                  have e2 : (x * y).tmod p = x * y % p := Int.tmod_eq_emod_of_nonneg m1
                  have z0 := Int.emod_nonneg (x * y) p0
                  have z1 := Int.emod_lt_of_pos (x * y) (by omega : 0 < p)
                  obtain ⟨z, hz⟩ : ∃ z, x * y % p = z := ⟨_, rfl⟩
                  rw [hz] at e2 z0 z1 SG
                  have TK := Lib.hid (fun W hb => TAK.out u W hb (by omega))
                  have SPX := Lib.hid (fun W A' g' R => SPL.out z u W A' g' R z0 z1)
                  have ew3 : IntKind.i64.wrap ((u : Int) + (t : Int)) = ((u + t : Nat) : Int) := by rw [IntKind.wrap_i64]; omega
                  have JX : Hid (∀ A' g' W, Lw.Rd W 2 A' mm (Lw.pairsV .i64 .i64 (Lw.dlL mm i)) → Calls Try.prog 27 #[.int .i64 p, .slice A' mm g'] W fun e w' => e = .returned (.int .i64 (Lw.wgt p mm ((i : Int) + 1))) ∧ Below W.heap.size W w') := by
                    have h := JON.out i
                    simp only [Lw.dlL_len, WGT.out i hil] at h
                    exact h
                  obtain ⟨wt0, wt1⟩ := Lw.wgt_bd (p := p) p1 mm ((i : Int) + 1)
                  obtain ⟨wt, hwt⟩ : ∃ z, Lw.wgt p mm ((i : Int) + 1) = z := ⟨_, rfl⟩
                  simp only [hwt] at JX SG wt0 wt1
                  have S6 := Lib.hid (fun w' (h : Below rb W5 w') => show w'.cell? ⟨gb, 1, none⟩ = some (.int .i64 (s : Int)) ∧ w'.cell? ⟨gb, 2, none⟩ = some (.int .i64 (v : Int)) ∧ w'.cell? ⟨g0, s, none⟩ = some (.slice (some pa) mm cs) ∧ (w'.cell? ⟨g0, v, none⟩ = some (.slice (some pb) mm cv) ∧ w'.cell? (pa.add i) = some (.int .i64 x) ∧ w'.cell? (pb.add i) = some (.int .i64 y)) from ⟨(SS.out w' h).1, (SS.out w' h).2.1, (SS.out w' h).2.2.1, (SS.out w' h).2.2.2, (hpa w' h).1, (hpb w' h).1⟩)
                  have hz1 : rb < w1.heap.size := by have := hX.size; omega
                  have OW1 := Lib.hid own
                  have HX1 := Lib.hid hX
                  have HU2 := Lib.hid hu2
                  clear own hX hx hy hpa hpb PI hu hS0 hS1 hwt hz hu0 hu2 m1 m2
                  go_wp2_with fail
                  go_loopw [22, 23] (fun l v wr => ∃ j : Nat, v = .int .i64 (j : Int) ∧ j ≤ mm ∧ wr.ownsRow w1.heap.size 57 2 l j (Lw.pairsV .i64 .i64 (Lw.dlL j i)) ∧ Below w1.heap.size w1 wr) (fun _ v _ => mm - (intOf v).toNat)
                  case atStart => exact ⟨0, rfl, by omega, World.ownsRow_nil _ _ _ _, Below.refl _ _⟩
                  case round =>
                    obtain ⟨j, rfl, hj, own5, hY⟩ := hrel
                    have hjm : j < mm ∨ ¬ j < mm := by omega
                    rcases hjm with hjl | hjl
                    · have hjl' : (j : Int) < (mm : Int) := by omega
                      have e5 : IntKind.i64.wrap ((j : Int) + 1) = (j : Int) + 1 := by rw [IntKind.wrap_i64]; omega
                      have DL := Lw.dlL_succ j i
                      have OWN5 := Lib.hid own5
                      have hz5 := hY.size
                      by_cases e : j = i
                      · have zb : ((j : Int) == (i : Int)) = true := by simp; omega
                        rw [if_pos e] at DL
                        have DL := Lib.hid DL
                        clear own5 e
                        go_wp2_with (at_builtin; go_loud (refine Lw.wpList_app elPnt rfl _ _ rfl rfl (OWN5.out.alloc _) rfl (by first | exact Lw.Rd.nil _ _ _ | exact Lw.Rd.lit (Lw.blk_new' (by simp) _ _) rfl rfl | exact Lw.Rd.lit (Lw.blk_alloc (Lw.blk_new' (by simp) _ _) _) rfl rfl) (Lw.pairs_one _ _) (by omega) (Lw.balloc hY _) (Nat.le_refl _) (by simp; omega) ?_); intro v2 w2 own2 hb2 _ _)
                        have O2 := Lib.hid own2
                        clear own2
                        go_wp2_with fail
                        go_roundw
                        case rel => exact ⟨j + 1, by go_num, by omega, by rw [DL.out, Lw.pairsV_append]; exact O2.out, hb2⟩
                        case measure => simp [intOf]; omega
                      · have zb : ((j : Int) == (i : Int)) = false := by simp; omega
                        rw [if_neg e] at DL
                        have DL := Lib.hid DL
                        clear own5 e
                        go_wp2_with (at_builtin; go_loud (refine Lw.wpList_app elPnt rfl _ _ rfl rfl (OWN5.out.alloc _) rfl (by first | exact Lw.Rd.nil _ _ _ | exact Lw.Rd.lit (Lw.blk_new' (by simp) _ _) rfl rfl | exact Lw.Rd.lit (Lw.blk_alloc (Lw.blk_new' (by simp) _ _) _) rfl rfl) (Lw.pairs_one _ _) (by omega) (Lw.balloc hY _) (Nat.le_refl _) (by simp; omega) ?_); intro v2 w2 own2 hb2 _ _)
                        have O2 := Lib.hid own2
                        clear own2
                        go_wp2_with fail
                        go_roundw
                        case rel => exact ⟨j + 1, by go_num, by omega, by rw [DL.out, Lw.pairsV_append]; exact O2.out, hb2⟩
                        case measure => simp [intOf]; omega
                    · have hjl' : ¬ (j : Int) < (mm : Int) := by omega
                      have hje : j = mm := by omega
                      rw [hje] at own5
                      obtain ⟨CD, gd, rfl, hg, _⟩ := Lw.ownsForm own5
                      have hXr : Below rb W5 wr := HX1.out.trans (hY.mono (by omega))
                      have hBr : Below w.heap.size w wr := B5.trans (hXr.mono (by omega))
                      have OWN5 := Lib.hid own5
                      have hzr := hY.size
                      clear own5
                      go_wp2_with (go_at_call 25; (with_reducible refine (TK.out _ hBr).mono ?_); rintro e w6 ⟨C6, g6, rfl, own6, hb6⟩; have R6 := Lib.hid (Lw.Rd.of_own own6); clear own6)
                      have hz6 := hb6.size
                      have hX6 : Below rb W5 w6 := hXr.trans (hb6.mono (by omega))
                      have OW6 := Lib.hid (Lw.ownsBelow (Lw.ownsBelow OW1.out (Nat.le_refl _) hY) (Nat.le_refl _) hb6)
                      have PD6 := Lib.hid (Lw.ownsBase (Lw.ownsBelow OWN5.out (Nat.le_refl _) hb6) (base' := rb + 1) (by omega))
                      have SP6 := Lib.hid (SPX.out w6.drew C6 g6 (Lw.Rd.drew R6.out))
                      refine wp_region_held_drew (S := fun w' => w'.cell? ⟨gb, 1, none⟩ = some (.int .i64 (s : Int)) ∧ w'.cell? ⟨gb, 2, none⟩ = some (.int .i64 (v : Int)) ∧ w'.cell? ⟨g0, s, none⟩ = some (.slice (some pa) mm cs) ∧ (w'.cell? ⟨g0, v, none⟩ = some (.slice (some pb) mm cv) ∧ w'.cell? (pa.add i) = some (.int .i64 x) ∧ w'.cell? (pb.add i) = some (.int .i64 y))) (by kernel_rfl) (by exact S6.out _ hX6.drew) (fun hHeld => ?_)
                      (refine Lw.take1 (i := 0) (v := ?_) rfl (by kernel_rfl) (by kernel_rfl) (by kernel_rfl) (fun _ _ _ h => h) (Or.inl ⟨by rfl, ?_⟩) (by assumption) ?_; rotate_left 1; (focus (intro wS hSw; obtain ⟨hS1, hS2, hS3, hS4⟩ := hSw; go_simp <;> with_reducible rfl)); (try simp only [Act.put, List.setIfInBounds_toArray, List.set_cons_zero, List.set_cons_succ]))
                      (refine Lw.take1 (i := 1) (v := ?_) rfl (by kernel_rfl) (by kernel_rfl) (by kernel_rfl) (fun _ _ _ h => h) (Or.inl ⟨by rfl, ?_⟩) (by assumption) ?_; rotate_left 1; (focus (intro wS hSw; obtain ⟨hS1, hS2, hS3, hS4⟩ := hSw; go_simp <;> with_reducible rfl)); (try simp only [Act.put, List.setIfInBounds_toArray, List.set_cons_zero, List.set_cons_succ]))
                      (refine Lw.take1 (i := 2) (v := ?_) rfl (by kernel_rfl) (by kernel_rfl) (by kernel_rfl) (fun _ _ _ h => h) (Or.inl ⟨by rfl, ?_⟩) (by assumption) ?_; rotate_left 1; (focus (intro wS hSw; obtain ⟨hS1, hS2, hS3, hS4⟩ := hSw; go_simp <;> with_reducible rfl)); (try simp only [Act.put, List.setIfInBounds_toArray, List.set_cons_zero, List.set_cons_succ]))
                      (refine Lw.take1 (i := 3) (v := ?_) rfl (by kernel_rfl) (by kernel_rfl) (by kernel_rfl) (fun _ _ _ h => h) (Or.inl ⟨by rfl, ?_⟩) (by assumption) ?_; rotate_left 1; (focus (intro wS hSw; obtain ⟨hS1, hS2, hS3, hS4⟩ := hSw; go_simp <;> with_reducible rfl)); (try simp only [Act.put, List.setIfInBounds_toArray, List.set_cons_zero, List.set_cons_succ]))
                      (refine Lw.take1 (i := 4) (v := ?_) rfl (by kernel_rfl) (by kernel_rfl) (by kernel_rfl) (fun _ _ _ h => h) (Or.inl ⟨by rfl, ?_⟩) (by assumption) ?_; rotate_left 1; (focus (intro wS hSw; obtain ⟨hS1, hS2, hS3, hS4⟩ := hSw; go_simp <;> with_reducible rfl)); (try simp only [Act.put, List.setIfInBounds_toArray, List.set_cons_zero, List.set_cons_succ]))
                      (refine Lw.take1 (i := 5) (v := ?_) rfl (by kernel_rfl) (by kernel_rfl) (by kernel_rfl) (fun _ _ _ h => h) (Or.inl ⟨by rfl, ?_⟩) (by assumption) ?_; rotate_left 1; (focus (intro wS hSw; obtain ⟨hS1, hS2, hS3, hS4⟩ := hSw; go_simp <;> with_reducible rfl)); (try simp only [Act.put, List.setIfInBounds_toArray, List.set_cons_zero, List.set_cons_succ]))
                      (refine Lw.take1 (i := 6) (v := ?_) rfl (by kernel_rfl) (by kernel_rfl) (by kernel_rfl) (fun _ _ _ h => h) (Or.inl ⟨by rfl, ?_⟩) (by assumption) ?_; rotate_left 1; (focus (intro wS hSw; obtain ⟨hS1, hS2, hS3, hS4⟩ := hSw; go_simp <;> with_reducible rfl)); (try simp only [Act.put, List.setIfInBounds_toArray, List.set_cons_zero, List.set_cons_succ]))
                      (refine Lw.take1 (i := 7) (v := ?_) rfl (by kernel_rfl) (by kernel_rfl) (by kernel_rfl) (fun _ _ _ h => h) (Or.inl ⟨by rfl, ?_⟩) (by assumption) ?_; rotate_left 1; (focus (intro wS hSw; obtain ⟨hS1, hS2, hS3, hS4⟩ := hSw; go_simp <;> with_reducible rfl)); (try simp only [Act.put, List.setIfInBounds_toArray, List.set_cons_zero, List.set_cons_succ]))
                      (refine Lw.take1 (i := 8) (v := ?_) rfl (by kernel_rfl) (by kernel_rfl) (by kernel_rfl) (fun _ _ _ h => h) (Or.inl ⟨by rfl, ?_⟩) (by assumption) ?_; rotate_left 1; (focus (intro wS hSw; obtain ⟨hS1, hS2, hS3, hS4⟩ := hSw; go_simp <;> with_reducible rfl)); (try simp only [Act.put, List.setIfInBounds_toArray, List.set_cons_zero, List.set_cons_succ]))
                      (refine Lw.take1 (i := 9) (v := ?_) rfl (by kernel_rfl) (by kernel_rfl) (by kernel_rfl) (fun _ _ _ h => h) (Or.inl ⟨by rfl, ?_⟩) (by assumption) ?_; rotate_left 1; (focus (intro wS hSw; obtain ⟨hS1, hS2, hS3, hS4⟩ := hSw; go_simp <;> with_reducible rfl)); (try simp only [Act.put, List.setIfInBounds_toArray, List.set_cons_zero, List.set_cons_succ]))
                      (refine Lw.take1 (i := 10) (v := ?_) rfl (by kernel_rfl) (by kernel_rfl) (by kernel_rfl) (fun _ _ _ h => h) (Or.inl ⟨by rfl, ?_⟩) (by assumption) ?_; rotate_left 1; (focus (intro wS hSw; obtain ⟨hS1, hS2, hS3, hS4⟩ := hSw; go_simp <;> with_reducible rfl)); (try simp only [Act.put, List.setIfInBounds_toArray, List.set_cons_zero, List.set_cons_succ]))
                      (refine Lw.take1 (i := 11) (v := ?_) rfl (by kernel_rfl) (by kernel_rfl) (by kernel_rfl) (fun _ _ _ h => h) (Or.inl ⟨by rfl, ?_⟩) (by assumption) ?_; rotate_left 1; (focus (intro wS hSw; obtain ⟨hS1, hS2, hS3, hS4⟩ := hSw; go_simp <;> with_reducible rfl)); (try simp only [Act.put, List.setIfInBounds_toArray, List.set_cons_zero, List.set_cons_succ]))
                      (refine Lw.take1 (i := 12) (v := ?_) rfl (by kernel_rfl) (by kernel_rfl) (by kernel_rfl) (fun _ _ _ h => h) (Or.inl ⟨by rfl, ?_⟩) (by assumption) ?_; rotate_left 1; (focus (intro wS hSw; obtain ⟨hS1, hS2, hS3, hS4⟩ := hSw; go_simp <;> with_reducible rfl)); (try simp only [Act.put, List.setIfInBounds_toArray, List.set_cons_zero, List.set_cons_succ]))
                      (refine Lw.take1 (i := 13) (v := ?_) rfl (by kernel_rfl) (by kernel_rfl) (by kernel_rfl) (fun _ _ _ h => h) (Or.inl ⟨by rfl, ?_⟩) (by assumption) ?_; rotate_left 1; (focus (intro wS hSw; obtain ⟨hS1, hS2, hS3, hS4⟩ := hSw; go_simp <;> with_reducible rfl)); (try simp only [Act.put, List.setIfInBounds_toArray, List.set_cons_zero, List.set_cons_succ]))
                      (refine Lw.take1 (i := 14) (v := ?_) rfl (by kernel_rfl) (by kernel_rfl) (by kernel_rfl) (fun _ _ _ h => h) (Or.inl ⟨by rfl, ?_⟩) (by assumption) ?_; rotate_left 1; (focus (intro wS hSw; obtain ⟨hS1, hS2, hS3, hS4⟩ := hSw; go_simp <;> with_reducible rfl)); (try simp only [Act.put, List.setIfInBounds_toArray, List.set_cons_zero, List.set_cons_succ]))
                      (refine Lw.take1 (i := 15) (v := ?_) rfl (by kernel_rfl) (by kernel_rfl) (by kernel_rfl) (fun _ _ _ h => h) (Or.inl ⟨by rfl, ?_⟩) (by assumption) ?_; rotate_left 1; (focus (intro wS hSw; obtain ⟨hS1, hS2, hS3, hS4⟩ := hSw; go_simp <;> with_reducible rfl)); (try simp only [Act.put, List.setIfInBounds_toArray, List.set_cons_zero, List.set_cons_succ]))
                      (refine Lw.take1 (i := 16) (v := ?_) rfl (by kernel_rfl) (by kernel_rfl) (by kernel_rfl) (fun _ _ _ h => h) (Or.inl ⟨by rfl, ?_⟩) (by assumption) ?_; rotate_left 1; (focus (intro wS hSw; obtain ⟨hS1, hS2, hS3, hS4⟩ := hSw; go_simp <;> with_reducible rfl)); (try simp only [Act.put, List.setIfInBounds_toArray, List.set_cons_zero, List.set_cons_succ]))
                      (refine Lw.take1 (i := 17) (v := ?_) rfl (by kernel_rfl) (by kernel_rfl) (by kernel_rfl) (fun _ _ _ h => h) (Or.inl ⟨by rfl, ?_⟩) (by assumption) ?_; rotate_left 1; (focus (intro wS hSw; obtain ⟨hS1, hS2, hS3, hS4⟩ := hSw; go_simp <;> with_reducible rfl)); (try simp only [Act.put, List.setIfInBounds_toArray, List.set_cons_zero, List.set_cons_succ]))
                      (refine Lw.take1 (i := 18) (v := ?_) rfl (by kernel_rfl) (by kernel_rfl) (by kernel_rfl) (fun _ _ _ h => h) (Or.inl ⟨by rfl, ?_⟩) (by assumption) ?_; rotate_left 1; (focus (intro wS hSw; obtain ⟨hS1, hS2, hS3, hS4⟩ := hSw; go_simp <;> with_reducible rfl)); (try simp only [Act.put, List.setIfInBounds_toArray, List.set_cons_zero, List.set_cons_succ]))
                      (refine Lw.take1 (i := 19) (v := ?_) rfl (by kernel_rfl) (by kernel_rfl) (by kernel_rfl) (fun _ _ _ h => h) (Or.inl ⟨by rfl, ?_⟩) (by assumption) ?_; rotate_left 1; (focus (intro wS hSw; obtain ⟨hS1, hS2, hS3, hS4⟩ := hSw; go_simp <;> with_reducible rfl)); (try simp only [Act.put, List.setIfInBounds_toArray, List.set_cons_zero, List.set_cons_succ]))
                      (refine Lw.take1 (i := 20) (v := ?_) rfl (by kernel_rfl) (by kernel_rfl) (by kernel_rfl) (fun _ _ _ h => h) (Or.inl ⟨by rfl, ?_⟩) (by assumption) ?_; rotate_left 1; (focus (intro wS hSw; obtain ⟨hS1, hS2, hS3, hS4⟩ := hSw; go_simp <;> with_reducible rfl)); (try simp only [Act.put, List.setIfInBounds_toArray, List.set_cons_zero, List.set_cons_succ]))
                      (refine Lw.take1 (i := 21) (v := ?_) rfl (by kernel_rfl) (by kernel_rfl) (by kernel_rfl) (fun _ _ _ h => h) (Or.inl ⟨by rfl, ?_⟩) (by assumption) ?_; rotate_left 1; (focus (intro wS hSw; obtain ⟨hS1, hS2, hS3, hS4⟩ := hSw; go_simp <;> with_reducible rfl)); (try simp only [Act.put, List.setIfInBounds_toArray, List.set_cons_zero, List.set_cons_succ]))
                      (refine Lw.take1 (i := 24) (v := ?_) rfl (by kernel_rfl) (by kernel_rfl) (by kernel_rfl) (fun _ _ _ h => h) (Or.inl ⟨by rfl, ?_⟩) (by assumption) ?_; rotate_left 1; (focus (intro wS hSw; obtain ⟨hS1, hS2, hS3, hS4⟩ := hSw; go_simp <;> with_reducible rfl)); (try simp only [Act.put, List.setIfInBounds_toArray, List.set_cons_zero, List.set_cons_succ]))
                      (refine wpAnyH_ready (rs := [22]) (by kernel_rfl) (by simp) ?_; refine Lw.cons1 (i := 22) rfl (fun K hK => ?_) AllReadyH.nil; go_simp; go_at_call 26; (with_reducible refine (SP6.out).mono ?_); rintro e w8 ⟨C8, g8, rfl, own8, hb8⟩; refine hK.out _ _ ?_ (fun hHeld => ?_); (focus exact S6.out _ (hX6.drew.trans (hb8.mono (show rb ≤ w6.heap.size by omega)))); clear hK K; (try simp only [Act.put, List.setIfInBounds_toArray, List.set_cons_zero, List.set_cons_succ]))
                      (refine Lw.take1 (i := 23) (v := ?_) rfl (by kernel_rfl) (by kernel_rfl) (by kernel_rfl) (fun _ _ _ h => h) (Or.inl ⟨by rfl, ?_⟩) (by assumption) ?_; rotate_left 1; (focus (intro wS hSw; obtain ⟨hS1, hS2, hS3, hS4⟩ := hSw; go_simp <;> with_reducible rfl)); (try simp only [Act.put, List.setIfInBounds_toArray, List.set_cons_zero, List.set_cons_succ]))
                      refine wpAnyH_done (by kernel_rfl) ?_ _
                      have hX8 : Below rb W5 w8 := hX6.drew.trans (hb8.mono (show rb ≤ w6.heap.size by omega))
                      have OW8 := Lib.hid (Lw.ownsBelow (Lw.own_drew OW6.out) (Nat.le_refl _) hb8)
                      have PD8 := Lib.hid (Lw.ownsBelow (Lw.own_drew PD6.out) (Nat.le_refl _) hb8)
                      have PS8 := Lib.hid (Lw.ownsBase own8 (base' := rb + 1) (show rb + 1 ≤ w6.heap.size by omega))
                      have HX8 := Lib.hid hX8
                      clear own8
                      have PS := Lw.ptsL_len p (z :: Lw.takR rs u t) mm
                      have PG : Hid (∀ k (h : k < (Lw.ptsL p (z :: Lw.takR rs u t) mm).length), (Lw.ptsL p (z :: Lw.takR rs u t) mm)[k] = ((k : Int) + 1, Lw.hornV p (z :: Lw.takR rs u t) ((k : Int) + 1))) := fun k h => by simp [Lw.ptsL]
                      obtain ⟨P, hP⟩ : ∃ P, Lw.ptsL p (z :: Lw.takR rs u t) mm = P := ⟨_, rfl⟩
                      have PG : Hid (∀ j (h : j < P.length), P[j] = ((j : Int) + 1, Lw.hornV p (z :: Lw.takR rs u t) ((j : Int) + 1))) := Lib.hid (fun j h => by subst hP; exact PG.out j h)
                      have HB := Lib.hid (fun x => Lw.horn_bd (p := p) (x := x) (by omega) (z :: Lw.takR rs u t))
                      simp only [hP] at PS PS8
                      clear hP e1 e2 x0 x1 y0 y1 z0 z1 hX6 hX8 hb6 hb8 OW6 PD6 SP6 R6 hY hXr hBr OWN5
                      go_wp2_with fail
                      go_loopw [162] (fun v wr => ∃ q : Nat, v = .int .i64 (q : Int) ∧ q ≤ mm ∧ wr.ownsRow rb 2 1 (.slice (some ⟨rb, 0, none⟩) mm mm) mm (Lw.intsV .i64 (Lw.mixL S1 S0 q)) ∧ wr.ownsRow (rb + 1) 57 2 (.slice C8 mm g8) mm (Lw.pairsV .i64 .i64 P) ∧ wr.ownsRow (rb + 1) 57 2 (.slice CD mm gd) mm (Lw.pairsV .i64 .i64 (Lw.dlL mm i)) ∧ Below rb W5 wr) (fun v _ => mm - (intOf v).toNat)
                      case atStart => exact ⟨0, rfl, by omega, by rw [Lw.mix_zero]; exact OW8.out, PS8.out, PD8.out, HX8.out⟩
                      case round =>
                        obtain ⟨q, rfl, hq, own, own2, own3, hX⟩ := hrel
                        have hqm : q < mm ∨ ¬ q < mm := by omega
                        rcases hqm with hql | hql
                        · have hql' : (q : Int) < (mm : Int) := by omega
                          have qp : q < P.length := by omega
                          obtain ⟨g0', g1'⟩ := Lw.pairsV_get (k := .i64) (l := .i64) qp
                          obtain ⟨pd, e1, hpd, d0, d1⟩ := (Lw.Rd.of_own own2).at2 hql g0' g1'
                          subst e1
                          rw [PG.out q qp] at d0 d1
                          obtain ⟨r0, f0, _, hgl⟩ := Lw.own_cell (i := q) own (Lw.mix_getD (by omega) (by omega))
                          have MS := Lw.mix_setD (a := S1) (b := S0) (i := q) (by omega) (by omega)
                          rw [SG.out q hql] at MS
                          obtain ⟨o0, o1⟩ := S0B.out q hql
                          obtain ⟨y0, y1⟩ := HB.out ((q : Int) + 1)
                          obtain ⟨y', hy⟩ : ∃ y, Lw.hornV p (z :: Lw.takR rs u t) ((q : Int) + 1) = y := ⟨_, rfl⟩
                          obtain ⟨o, ho⟩ : ∃ y, S0.getD q 0 = y := ⟨_, rfl⟩
                          rw [hy] at MS d1 y0 y1
                          rw [ho] at MS r0 o0 o1
                          obtain ⟨m1, m2⟩ := Lw.mul_bd' y' wt 251 y0 (by omega) wt0 (by omega)
                          have e1 : IntKind.i64.wrap (y' * wt) = y' * wt := by rw [IntKind.wrap_i64]; omega
                          have e2 : IntKind.i64.wrap (o + y' * wt) = o + y' * wt := by rw [IntKind.wrap_i64]; omega
                          have e3 : (o + y' * wt).tmod p = (o + y' * wt) % p := Int.tmod_eq_emod_of_nonneg (by omega)
                          rw [Int.mul_comm wt y'] at MS
                          have MS := Lib.hid MS
                          have OWX := Lib.hid own
                          have OWP := Lib.hid own2
                          have OWD := Lib.hid own3
                          have HX := Lib.hid hX
                          clear own own2 own3 hX g0' g1' hy ho m1 m2 o0 o1 y0 y1
                          simp only at d0 d1
                          go_wp2_with fail
                          refine Lw.at_world (fun W9 hW9 => ?_)
                          have hB9 : Below wr.heap.size wr W9 := by rw [hW9.out]; exact Lw.balloc (Below.refl _ _) _
                          have VB : W9.heap[wr.heap.size]? = some (.cells #[.int .i64 ((q : Int) + 1), .int .i64 y'] 57 (0, 0)) := by rw [hW9.out]; exact Lw.blk_new _ _ _
                          have v1 := Lw.blk_cell VB 1
                          simp at v1
                          have hl9 : wr.heap.size < W9.heap.size := Lw.blk_lt VB
                          have hrl : rb < wr.heap.size := by have := HX.out.size; omega
                          have r9 : W9.drew.cell? ⟨rb, q, none⟩ = some (.int .i64 o) := (hB9.cell (p := ⟨rb, q, none⟩) hrl).trans r0
                          have JW := Lib.hid (JX.out CD gd W9.drew (Lw.Rd.drew ((Lw.Rd.of_own OWD.out).below (Nat.le_refl _) hB9)))
                          have v1' : W9.drew.cell? ⟨wr.heap.size, 1, none⟩ = some (.int .i64 y') := v1
                          have KEY := Lib.hid (fun w10 (hb : Below W9.drew.heap.size W9.drew w10) => show Below wr.heap.size wr w10 from (Below.drew hB9).trans (hb.mono (show wr.heap.size ≤ W9.heap.size by omega)))
                          have HB9 := Lib.hid hB9
                          clear hW9 VB hB9 d0 d1
                          refine wp_region_held_drew (S := fun w' => w'.cell? ⟨wr.heap.size, 1, none⟩ = some (.int .i64 y') ∧ True ∧ True ∧ True) (by kernel_rfl) (by exact ⟨v1, trivial, trivial, trivial⟩) (fun hHeld => ?_)
                          (refine Lw.take1 (i := 0) (v := ?_) rfl (by kernel_rfl) (by kernel_rfl) (by kernel_rfl) (fun _ _ _ h => h) (Or.inl ⟨by rfl, ?_⟩) (by assumption) ?_; rotate_left 1; (focus (intro wS hSw; obtain ⟨hS1, hS2, hS3, hS4⟩ := hSw; go_simp <;> with_reducible rfl)); (try simp only [Act.put, List.setIfInBounds_toArray, List.set_cons_zero, List.set_cons_succ]))
                          (refine Lw.take1 (i := 1) (v := ?_) rfl (by kernel_rfl) (by kernel_rfl) (by kernel_rfl) (fun _ _ _ h => h) (Or.inl ⟨by rfl, ?_⟩) (by assumption) ?_; rotate_left 1; (focus (intro wS hSw; obtain ⟨hS1, hS2, hS3, hS4⟩ := hSw; go_simp <;> with_reducible rfl)); (try simp only [Act.put, List.setIfInBounds_toArray, List.set_cons_zero, List.set_cons_succ]))
                          (refine Lw.take1 (i := 2) (v := ?_) rfl (by kernel_rfl) (by kernel_rfl) (by kernel_rfl) (fun _ _ _ h => h) (Or.inl ⟨by rfl, ?_⟩) (by assumption) ?_; rotate_left 1; (focus (intro wS hSw; obtain ⟨hS1, hS2, hS3, hS4⟩ := hSw; go_simp <;> with_reducible rfl)); (try simp only [Act.put, List.setIfInBounds_toArray, List.set_cons_zero, List.set_cons_succ]))
                          (refine Lw.take1 (i := 3) (v := ?_) rfl (by kernel_rfl) (by kernel_rfl) (by kernel_rfl) (fun _ _ _ h => h) (Or.inl ⟨by rfl, ?_⟩) (by assumption) ?_; rotate_left 1; (focus (intro wS hSw; obtain ⟨hS1, hS2, hS3, hS4⟩ := hSw; go_simp <;> with_reducible rfl)); (try simp only [Act.put, List.setIfInBounds_toArray, List.set_cons_zero, List.set_cons_succ]))
                          (refine Lw.take1 (i := 4) (v := ?_) rfl (by kernel_rfl) (by kernel_rfl) (by kernel_rfl) (fun _ _ _ h => h) (Or.inl ⟨by rfl, ?_⟩) (by assumption) ?_; rotate_left 1; (focus (intro wS hSw; obtain ⟨hS1, hS2, hS3, hS4⟩ := hSw; go_simp <;> with_reducible rfl)); (try simp only [Act.put, List.setIfInBounds_toArray, List.set_cons_zero, List.set_cons_succ]))
                          (refine Lw.take1 (i := 6) (v := ?_) rfl (by kernel_rfl) (by kernel_rfl) (by kernel_rfl) (fun _ _ _ h => h) (Or.inl ⟨by rfl, ?_⟩) (by assumption) ?_; rotate_left 1; (focus (intro wS hSw; obtain ⟨hS1, hS2, hS3, hS4⟩ := hSw; go_simp <;> with_reducible rfl)); (try simp only [Act.put, List.setIfInBounds_toArray, List.set_cons_zero, List.set_cons_succ]))
                          (refine Lw.take1 (i := 7) (v := ?_) rfl (by kernel_rfl) (by kernel_rfl) (by kernel_rfl) (fun _ _ _ h => h) (Or.inl ⟨by rfl, ?_⟩) (by assumption) ?_; rotate_left 1; (focus (intro wS hSw; obtain ⟨hS1, hS2, hS3, hS4⟩ := hSw; go_simp <;> with_reducible rfl)); (try simp only [Act.put, List.setIfInBounds_toArray, List.set_cons_zero, List.set_cons_succ]))
                          (refine Lw.take1 (i := 8) (v := ?_) rfl (by kernel_rfl) (by kernel_rfl) (by kernel_rfl) (fun _ _ _ h => h) (Or.inl ⟨by rfl, ?_⟩) (by assumption) ?_; rotate_left 1; (focus (intro wS hSw; obtain ⟨hS1, hS2, hS3, hS4⟩ := hSw; go_simp <;> with_reducible rfl)); (try simp only [Act.put, List.setIfInBounds_toArray, List.set_cons_zero, List.set_cons_succ]))
                          (refine Lw.take1 (i := 9) (v := ?_) rfl (by kernel_rfl) (by kernel_rfl) (by kernel_rfl) (fun _ _ _ h => h) (Or.inl ⟨by rfl, ?_⟩) (by assumption) ?_; rotate_left 1; (focus (intro wS hSw; obtain ⟨hS1, hS2, hS3, hS4⟩ := hSw; go_simp <;> with_reducible rfl)); (try simp only [Act.put, List.setIfInBounds_toArray, List.set_cons_zero, List.set_cons_succ]))
                          (refine Lw.take1 (i := 13) (v := ?_) rfl (by kernel_rfl) (by kernel_rfl) (by kernel_rfl) (fun _ _ _ h => h) (Or.inl ⟨by rfl, ?_⟩) (by assumption) ?_; rotate_left 1; (focus (intro wS hSw; obtain ⟨hS1, hS2, hS3, hS4⟩ := hSw; go_simp <;> with_reducible rfl)); (try simp only [Act.put, List.setIfInBounds_toArray, List.set_cons_zero, List.set_cons_succ]))
                          refine wpAnyH_ready (rs := [5, 10]) (by kernel_rfl) (by simp) ?_
                          refine Lw.cons1 (i := 5) rfl (fun K hK => ?_) (Lw.cons1 (i := 10) rfl (fun K hK => ?_) AllReadyH.nil)
                          · as_aux_lemma =>
                              (go_simp; refine hK.out _ _ ?_ (fun hHeld => ?_); (focus exact ⟨v1', trivial, trivial, trivial⟩); clear hK K; (try simp only [Act.put, List.setIfInBounds_toArray, List.set_cons_zero, List.set_cons_succ]))
                              (refine wpAnyH_ready (rs := [10]) (by kernel_rfl) (by simp) ?_; refine Lw.cons1 (i := 10) rfl (fun K hK => ?_) AllReadyH.nil; go_simp; go_at_call 27; (with_reducible refine (JW.out).mono ?_); rintro e w10 ⟨rfl, hb10⟩; refine hK.out _ _ ?_ (fun hHeld => ?_); (focus exact ⟨(hb10.cell (p := ⟨wr.heap.size, 1, none⟩) hl9).trans v1', trivial, trivial, trivial⟩); clear hK K; (try simp only [Act.put, List.setIfInBounds_toArray, List.set_cons_zero, List.set_cons_succ]))
                              (refine Lw.take1 (i := 11) (v := ?_) rfl (by kernel_rfl) (by kernel_rfl) (by kernel_rfl) (fun _ _ _ h => h) (Or.inl ⟨by rfl, ?_⟩) (by assumption) ?_; rotate_left 1; (focus (intro wS hSw; obtain ⟨hS1, hS2, hS3, hS4⟩ := hSw; go_simp <;> with_reducible rfl)); (try simp only [Act.put, List.setIfInBounds_toArray, List.set_cons_zero, List.set_cons_succ]))
                              have t10 : w10.cell? ⟨rb, q, none⟩ = some (.int .i64 o) := (hb10.cell (p := ⟨rb, q, none⟩) (show rb < W9.heap.size by omega)).trans r9
                              have hK10 := KEY.out _ hb10
                              have f10 : w10.frozen? ⟨rb, q, none⟩ = false := (hK10.frozen (p := ⟨rb, q, none⟩) hrl).trans f0
                              have w9v : w10.cell? ⟨wr.heap.size, 1, none⟩ = some (.int .i64 y') := (hb10.cell (p := ⟨wr.heap.size, 1, none⟩) hl9).trans v1'
                              (refine Lw.take1 (i := 12) (v := ?_) rfl (by kernel_rfl) (by kernel_rfl) (by kernel_rfl) (fun _ _ _ h => h) (Or.inl ⟨by rfl, ?_⟩) (by assumption) ?_; rotate_left 1; (focus (intro wS hSw; obtain ⟨hS1, hS2, hS3, hS4⟩ := hSw; go_simp <;> with_reducible rfl)); (try simp only [Act.put, List.setIfInBounds_toArray, List.set_cons_zero, List.set_cons_succ]))
                              (refine Lw.take1 (i := 14) (v := ?_) rfl (by kernel_rfl) (by kernel_rfl) (by kernel_rfl) (fun _ _ _ h => h) (Or.inl ⟨by rfl, ?_⟩) (by assumption) ?_; rotate_left 1; (focus (intro wS hSw; obtain ⟨hS1, hS2, hS3, hS4⟩ := hSw; go_simp <;> with_reducible rfl)); (try simp only [Act.put, List.setIfInBounds_toArray, List.set_cons_zero, List.set_cons_succ]))
                              (refine Lw.take1 (i := 15) (v := ?_) rfl (by kernel_rfl) (by kernel_rfl) (by kernel_rfl) (fun _ _ _ h => h) (Or.inl ⟨by rfl, ?_⟩) (by assumption) ?_; rotate_left 1; (focus (intro wS hSw; obtain ⟨hS1, hS2, hS3, hS4⟩ := hSw; go_simp <;> with_reducible rfl)); (try simp only [Act.put, List.setIfInBounds_toArray, List.set_cons_zero, List.set_cons_succ]))
                              (refine wpAnyH_ready (rs := [16]) (by kernel_rfl) (by simp) ?_; refine Lw.cons1 (i := 16) rfl (fun K hK => ?_) AllReadyH.nil; go_simp; refine hK.out _ _ ?_ (fun hHeld => ?_); (focus exact ⟨by rw [← w9v]; exact World.cell?_of_block (Below.heap_setCell _ _ _ _ (show wr.heap.size ≠ rb by omega)), trivial, trivial, trivial⟩); clear hK K; (try simp only [Act.put, List.setIfInBounds_toArray, List.set_cons_zero, List.set_cons_succ]))
                              refine wpAnyH_done (by kernel_rfl) ?_ _
                              have hX10 : Below rb W5 w10 := HX.out.trans (hK10.mono (by omega))
                              go_wp2
                              go_roundw
                              case rel => exact ⟨q + 1, by go_num, by omega, by rw [← MS.out]; exact Lw.own_set (Lw.ownsBelow OWX.out (Nat.le_refl _) hK10) hql, Lw.own_setk (k := rb) (Lw.ownsBelow OWP.out (Nat.le_refl _) hK10) (fun e => by have := (OWP.out.lt _ e).1; omega), Lw.own_setk (k := rb) (Lw.ownsBelow OWD.out (Nat.le_refl _) hK10) (fun e => by have := (OWD.out.lt _ e).1; omega), hX10.setCell (p := ⟨rb, q, none⟩) (Nat.le_refl _) _⟩
                              case measure => simp [intOf]; omega

                          · as_aux_lemma =>
                              (go_simp; go_at_call 27; (with_reducible refine (JW.out).mono ?_); rintro e w10 ⟨rfl, hb10⟩; refine hK.out _ _ ?_ (fun hHeld => ?_); (focus exact ⟨(hb10.cell (p := ⟨wr.heap.size, 1, none⟩) hl9).trans v1', trivial, trivial, trivial⟩); clear hK K; (try simp only [Act.put, List.setIfInBounds_toArray, List.set_cons_zero, List.set_cons_succ]))
                              have r10 : w10.cell? ⟨rb, q, none⟩ = some (.int .i64 o) := (hb10.cell (p := ⟨rb, q, none⟩) (show rb < W9.heap.size by omega)).trans r9
                              (refine Lw.take1 (i := 11) (v := ?_) rfl (by kernel_rfl) (by kernel_rfl) (by kernel_rfl) (fun _ _ _ h => h) (Or.inl ⟨by rfl, ?_⟩) (by assumption) ?_; rotate_left 1; (focus (intro wS hSw; obtain ⟨hS1, hS2, hS3, hS4⟩ := hSw; go_simp <;> with_reducible rfl)); (try simp only [Act.put, List.setIfInBounds_toArray, List.set_cons_zero, List.set_cons_succ]))
                              (refine wpAnyH_ready (rs := [5]) (by kernel_rfl) (by simp) ?_; refine Lw.cons1 (i := 5) rfl (fun K hK => ?_) AllReadyH.nil; go_simp; refine hK.out _ _ ?_ (fun hHeld => ?_); (focus exact ⟨(hb10.cell (p := ⟨wr.heap.size, 1, none⟩) hl9).trans v1', trivial, trivial, trivial⟩); clear hK K; (try simp only [Act.put, List.setIfInBounds_toArray, List.set_cons_zero, List.set_cons_succ]))
                              have t10 : w10.cell? ⟨rb, q, none⟩ = some (.int .i64 o) := (hb10.cell (p := ⟨rb, q, none⟩) (show rb < W9.heap.size by omega)).trans r9
                              have hK10 := KEY.out _ hb10
                              have f10 : w10.frozen? ⟨rb, q, none⟩ = false := (hK10.frozen (p := ⟨rb, q, none⟩) hrl).trans f0
                              have w9v : w10.cell? ⟨wr.heap.size, 1, none⟩ = some (.int .i64 y') := (hb10.cell (p := ⟨wr.heap.size, 1, none⟩) hl9).trans v1'
                              (refine Lw.take1 (i := 12) (v := ?_) rfl (by kernel_rfl) (by kernel_rfl) (by kernel_rfl) (fun _ _ _ h => h) (Or.inl ⟨by rfl, ?_⟩) (by assumption) ?_; rotate_left 1; (focus (intro wS hSw; obtain ⟨hS1, hS2, hS3, hS4⟩ := hSw; go_simp <;> with_reducible rfl)); (try simp only [Act.put, List.setIfInBounds_toArray, List.set_cons_zero, List.set_cons_succ]))
                              (refine Lw.take1 (i := 14) (v := ?_) rfl (by kernel_rfl) (by kernel_rfl) (by kernel_rfl) (fun _ _ _ h => h) (Or.inl ⟨by rfl, ?_⟩) (by assumption) ?_; rotate_left 1; (focus (intro wS hSw; obtain ⟨hS1, hS2, hS3, hS4⟩ := hSw; go_simp <;> with_reducible rfl)); (try simp only [Act.put, List.setIfInBounds_toArray, List.set_cons_zero, List.set_cons_succ]))
                              (refine Lw.take1 (i := 15) (v := ?_) rfl (by kernel_rfl) (by kernel_rfl) (by kernel_rfl) (fun _ _ _ h => h) (Or.inl ⟨by rfl, ?_⟩) (by assumption) ?_; rotate_left 1; (focus (intro wS hSw; obtain ⟨hS1, hS2, hS3, hS4⟩ := hSw; go_simp <;> with_reducible rfl)); (try simp only [Act.put, List.setIfInBounds_toArray, List.set_cons_zero, List.set_cons_succ]))
                              (refine wpAnyH_ready (rs := [16]) (by kernel_rfl) (by simp) ?_; refine Lw.cons1 (i := 16) rfl (fun K hK => ?_) AllReadyH.nil; go_simp; refine hK.out _ _ ?_ (fun hHeld => ?_); (focus exact ⟨by rw [← w9v]; exact World.cell?_of_block (Below.heap_setCell _ _ _ _ (show wr.heap.size ≠ rb by omega)), trivial, trivial, trivial⟩); clear hK K; (try simp only [Act.put, List.setIfInBounds_toArray, List.set_cons_zero, List.set_cons_succ]))
                              refine wpAnyH_done (by kernel_rfl) ?_ _
                              have hX10 : Below rb W5 w10 := HX.out.trans (hK10.mono (by omega))
                              go_wp2
                              go_roundw
                              case rel => exact ⟨q + 1, by go_num, by omega, by rw [← MS.out]; exact Lw.own_set (Lw.ownsBelow OWX.out (Nat.le_refl _) hK10) hql, Lw.own_setk (k := rb) (Lw.ownsBelow OWP.out (Nat.le_refl _) hK10) (fun e => by have := (OWP.out.lt _ e).1; omega), Lw.own_setk (k := rb) (Lw.ownsBelow OWD.out (Nat.le_refl _) hK10) (fun e => by have := (OWD.out.lt _ e).1; omega), hX10.setCell (p := ⟨rb, q, none⟩) (Nat.le_refl _) _⟩
                              case measure => simp [intOf]; omega

                        · have hql' : ¬ (q : Int) < (mm : Int) := by omega
                          have hqe : q = mm := by omega
                          rw [hqe, Lw.mix_all S1L S0L] at own
                          have OX := Lib.hid own
                          have HX := Lib.hid hX
                          clear own own2 own3 hX
                          go_wp2_with fail
                          go_roundw
                          case rel => exact ⟨i + 1, by go_num, by omega, (by rw [HU2.out]; simp), by rw [HS1.out]; exact OX.out, HX.out⟩
                          case measure => simp [intOf]; omega
                · have hil' : ¬ (i : Int) < (mm : Int) := by omega
                  have hie : i = mm := by omega
                  rw [hie] at own
                  obtain ⟨wr, hwr⟩ : ∃ wr, wr = w1 := ⟨_, rfl⟩
                  subst hwr
                  have OX := Lib.hid own
                  have HX := Lib.hid hX
                  have s0' := G0.out _ hX
                  rw [hie]
                  clear own hX
                  have hTl : Below wr0.heap.size wr0 wr := HB5.out.trans (HX.out.mono (by omega))
                  have O9 := Lib.hid (Lw.ownsBelow OWN.out (Nat.le_refl _) hTl)
                  have B9 : Below w.heap.size w wr := Below.trans hB (hTl.mono hB.size)
                  have z9 := hTl.size
                  have ROW9 := Lib.hid (Lw.ownsBase OX.out (base' := w.heap.size) (by omega))
                  go_wp2_with (at_builtin; go_loud (refine Lw.wpList_app elRow rfl _ _ rfl rfl (O9.out.alloc _) rfl (by first | exact Lw.Rd.nil _ _ _ | exact Lw.Rd.lit (Lw.blk_new' (by simp) _ _) rfl rfl | exact Lw.Rd.lit (Lw.blk_alloc (Lw.blk_new' (by simp) _ _) _) rfl rfl) (Lw.row_one _ _ _) (by omega) (Lw.balloc B9 _) (Nat.le_refl _) (by simp; omega) ?_); intro v4 w4 own4 hb4 hg4 _)
                  have FIN : Hid (RfS w p t mm ins rs gs (k + 1) v4 w4) := rf_next tl OWN.out ROWS.out hTl ROW9.out NX.out PLk own4 hg4 hb4
                  clear own4 hg4
                  go_wp2
                  go_roundw
                  case rel => exact ⟨k + 1, by go_num, by omega, by (first | (rw [NX.out]; done) | (rw [NX.out]; rfl) | (rw [NX.out]; simp)), FIN.out⟩
                  case measure => simp [intOf]; omega

    · have hkn : k = n := by omega
      subst hkn
      go_wp2_with fail
      go_ret
      exact ⟨_, rfl, hP⟩
end Go.Proofs.Ytfocpbknckmmaaa

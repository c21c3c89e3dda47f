/- (place).texts walked. -/
import Derived.Test.YtnlbnadjolfjpaaTrg
import Derived.Test.YtnlbnadjolfjpaaBit
namespace Lw
open Go Go.RowKit
theorem Rd.tail {w : World} {A : Option Addr} {n : Nat} {x : Value} {xs : List Value} (h : Rd w 1 A (n + 1) (x :: xs)) : ∃ ad, A = some ad ∧ ad.block < w.heap.size ∧ w.cell? ad = some x ∧ Rd w 1 (some (ad.add 1)) n xs := by
  obtain ⟨ad, e, hb, hc⟩ := h.2 (by omega)
  refine ⟨ad, e, hb, hc 0 _ rfl, by have := h.1; simp at this; omega, fun _ => ⟨_, rfl, by rw [add_block]; exact hb, fun j u hu => ?_⟩⟩
  rw [add_add, Nat.add_comm]
  exact hc (j + 1) u (by simpa using hu)
theorem rd_cut {w : World} {ad : Addr} {k d : Nat} {xs : List Value} (h : Rd w 1 (some (ad.add 1)) k xs) (hk : k + 1 ≤ d) : Rd w 1 (if d = 1 then some ad else some ⟨ad.block, ad.off + 1, none⟩) k xs := by
  by_cases hd : d = 1
  · obtain rfl : k = 0 := by omega
    have : xs = [] := List.eq_nil_of_length_eq_zero (by simpa using h.1)
    subst this
    exact Rd.nil _ _ _
  · rw [if_neg hd, ← add_succ' ad 0]; exact h
theorem xor_even {i : Nat} (h : i % 2 = 0) : i ^^^ 1 = i + 1 := by
  apply Nat.eq_of_testBit_eq
  intro j
  rw [Nat.testBit_xor]
  cases j with
  | zero => have h1 : (i + 1) % 2 = 1 := by omega
            simp [Nat.testBit_zero, h, h1]
  | succ j => rw [Nat.testBit_succ, Nat.testBit_succ, Nat.testBit_succ, show (i + 1) / 2 = i / 2 by omega]; simp
theorem xor_odd {i : Nat} (h : i % 2 = 1) : i ^^^ 1 = i - 1 := by
  apply Nat.eq_of_testBit_eq
  intro j
  rw [Nat.testBit_xor]
  cases j with
  | zero => have h1 : (i - 1) % 2 = 0 := by omega
            simp [Nat.testBit_zero, h, h1]
  | succ j => rw [Nat.testBit_succ, Nat.testBit_succ, Nat.testBit_succ, show (i - 1) / 2 = i / 2 by omega]; simp
theorem one_sl (A : Option Addr) (n c : Nat) : ∀ u ∈ [Value.slice A n c], u.oneCell' = true := by intro u hu; simp at hu; subst hu; rfl
theorem set2c' {W : World} {b : Nat} {c0 c1 x y : Value} {t : TypeId} (h : W.heap[b]? = some (.cells #[c0, c1] t (0, 0))) : ((W.setCell ⟨b, 0, none⟩ x).setCell ⟨b, 1, none⟩ y).heap[b]? = some (.cells #[x, y] t (0, 0)) := by
  have h2 := blk_set_same (blk_set_same h 0 x) 1 y
  simpa using h2
/-- a text of the call's own -/
def TxtW (e base : Nat) (w : World) (r : TRow) : Prop := w.ownsRow base e 1 (.slice r.A r.n r.c) r.n (intsV .u8 r.zs) ∧ Byt r.zs ∧ r.n ≤ 1048576
theorem TxtW.ok {e base : Nat} {w : World} {r : TRow} (h : TxtW e base w r) : TxtOk w r := txtOk_own h.1 h.2.1 h.2.2
theorem own_keep {w w' : World} {b1 b2 e1 e2 s1 s2 n m : Nat} {u v : Value} {xs ys : List Value} (h : w.ownsRow b1 e1 s1 u n xs) (hv : w.ownsRow b2 e2 s2 v m ys) (he : e1 ≠ e2) (hg : w.grownBy w' v.ownBlock) : w'.ownsRow b1 e1 s1 u n xs := by
  obtain ⟨hl, h2⟩ := h
  refine ⟨hl, ?_⟩
  rcases h2 with ⟨h0, h1⟩ | ⟨g, cap, cur, hu, hbg, hh, rest⟩
  · exact .inl ⟨h0, h1⟩
  · refine .inr ⟨g, cap, cur, hu, hbg, ?_, rest⟩
    refine (hg.block g (Array.getElem?_eq_some_iff.1 hh).1 (fun e => ?_)).trans hh
    rcases hv.2 with ⟨h0, _⟩ | ⟨g2, cap2, cur2, hu2, _, hh2, _⟩
    · subst h0; cases e
    · subst hu2
      have : g2 = g := by injection e.symm
      subst this
      rw [hh] at hh2
      injection hh2 with hh2
      injection hh2 with _ h3
      exact he h3
theorem map_snoc {T : List TRow} {r : TRow} : (T ++ [r]).map TRow.v = T.map TRow.v ++ [.slice r.A r.n r.c] := by simp [TRow.v]
theorem box_grown {wr w3 : World} {b base e sz n : Nat} {v : Value} {xs : List Value} {cs : Array Value} {t : TypeId} {o2 : Obj} (h : wr.heap[b]? = some (.cells cs t (0, 0))) (own : wr.ownsRow base e sz v n xs) (hb : b < base) (hg : (wr.alloc o2).grownBy w3 v.ownBlock) : w3.heap[b]? = some (.cells cs t (0, 0)) := by
  have hl := (Array.getElem?_eq_some_iff.1 h).1
  have h2 : (wr.alloc o2).heap[b]? = some (.cells cs t (0, 0)) := blk_alloc h _
  exact (hg.block b (by simp; omega) (fun e => by have := (own.lt b e.symm).1; omega)).trans h2
theorem bset_own {w : World} {b0 base e n : Nat} {v : Value} {xs : List Value} {i : Nat} {u : Value} (h : w.ownsRow base e 1 v n xs) (hb : b0 < base) : (w.setCell ⟨b0, i, none⟩ u).ownsRow base e 1 v n xs := by
  obtain ⟨hl, h2⟩ := h
  refine ⟨hl, ?_⟩
  rcases h2 with ⟨h0, h1⟩ | ⟨g', cap, cur, hv, hbg, hh, rest⟩
  · exact .inl ⟨h0, h1⟩
  · refine .inr ⟨g', cap, cur, hv, hbg, ?_, rest⟩
    rw [Below.heap_setCell w ⟨b0, i, none⟩ u g' (by show g' ≠ b0; omega)]
    exact hh
end Lw
set_option linter.unusedVariables false
set_option linter.unusedSimpArgs false
namespace Go.Proofs.Ytnlbnadjolfjpaa
open Go.RowKit
theorem elRws : Lw.El Try.prog 32 40 (.slice none 0 0) 1 24 := Lw.El.mk' Try.underlying32 (by kernel_rfl) rfl (by decide) (by decide)
theorem texts1 (x : Int) (w : World) (h0 : 0 ≤ x) (h1 : x < 4294967296) : Calls Try.prog 65 #[.int .u32 x] w fun e w' => e = .returned (.bool (decide (65535 < x))) ∧ w = w' := by
  by_cases h : 65535 < x
  · have z : (x / 65536 != 0) = true := by simp; omega
    have e : decide (65535 < x) = true := decide_eq_true h
    rw [e]
    clear h e
    go_enter Try.func65, Try.ntmps65
    go_wp2
    go_ret
    exact ⟨rfl, rfl⟩
  · have z : (x / 65536 != 0) = false := by simp; omega
    have e : decide (65535 < x) = false := decide_eq_false h
    rw [e]
    clear h e
    go_enter Try.func65, Try.ntmps65
    go_wp2
    go_ret
    exact ⟨rfl, rfl⟩
set_option maxHeartbeats 1000000 in
theorem big_idx (A : Option Addr) (n c : Nat) (ps : List Int) (w : World) (R : Lw.Rd w 1 A n (Lw.intsV .u32 ps)) (hw : ∀ z ∈ ps, 0 ≤ z ∧ z < 4294967296) (hn : n ≤ 1048576) :
    Calls Try.prog 84 #[.slice A n c, .func (.func 65) #[] #[]] w (Lw.IdxT (Lw.bigP ps) w) := by
  have R := Lib.hid R
  have LP := Lib.hid (show ps.length = n by have := R.out.1; simpa [Lw.intsV] using this)
  have BP : Hid (Lw.bigP ps = ps.any fun x => decide (65535 < x)) := rfl
  have HW := Lib.hid hw
  clear hw
  go_enter Try.func84, Try.ntmps84
  go_wp2
  go_loop [5, 8] (fun x i => ∃ k : Nat, i = .int .i64 (k : Int) ∧ k ≤ n ∧ Hid ((ps.take k).any (fun x => decide (65535 < x)) = false)) (fun _ i => n - (intOf i).toNat)
  case atStart => exact ⟨0, rfl, by omega, rfl⟩
  case round =>
    obtain ⟨k, rfl, k1, TK⟩ := hrel
    by_cases hlt : k < n
    · have hlt' : (k : Int) < (n : Int) := by omega
      have hl : k < ps.length := by rw [LP.out]; exact hlt
      obtain ⟨ad, rfl, had, hcell⟩ := R.out.at1 hlt (Lw.intsV_get hl)
      have N := Lib.hid (Lw.any_take hl TK.out)
      have D := Lib.hid (Lw.any_at (p := fun x : Int => decide (65535 < x)) hl)
      obtain ⟨x1, x2⟩ := HW.out _ (List.getElem_mem hl)
      obtain ⟨x, hx⟩ : ∃ r, ps[k] = r := ⟨_, rfl⟩
      rw [hx] at hcell N D x1 x2
      have TX := fun w => texts1 x w x1 x2
      clear hx
      cases h0 : decide (65535 < x) with
      | true =>
        have D1 := Lib.hid (D.out h0)
        rw [h0] at TX
        replace TX := Lib.hid TX
        clear N D h0
        go_wp2_with (go_at_call 65; (with_reducible refine (TX.out _).mono ?_); rintro e w' ⟨rfl, rfl⟩)
        go_ret
        exact ⟨_, rfl, rfl, .inr ⟨by rw [BP.out]; exact D1.out, by omega⟩⟩
      | false =>
        have N1 := Lib.hid (N.out h0)
        rw [h0] at TX
        replace TX := Lib.hid TX
        clear N D h0
        go_wp2_with (go_at_call 65; (with_reducible refine (TX.out _).mono ?_); rintro e w' ⟨rfl, rfl⟩)
        go_round
        case rel => exact ⟨k + 1, by go_num, by omega, N1⟩
        case measure => simp [intOf]; omega
    · have hlt' : ¬ (k : Int) < (n : Int) := by omega
      have hk : ps.take k = ps := List.take_of_length_le (by rw [LP.out]; omega)
      have E : Hid (ps.any (fun x => decide (65535 < x)) = false) := by have := TK.out; rwa [hk] at this
      clear hk
      go_wp2
      go_ret
      exact ⟨_, rfl, rfl, .inl ⟨by rw [BP.out]; exact E.out, rfl⟩⟩
theorem big_con (A : Option Addr) (n c : Nat) (ps : List Int) (w : World) (R : Lw.Rd w 1 A n (Lw.intsV .u32 ps)) (hw : ∀ z ∈ ps, 0 ≤ z ∧ z < 4294967296) (hn : n ≤ 1048576) :
    Calls Try.prog 64 #[.slice A n c, .func (.func 65) #[] #[]] w fun e w' => e = .returned (.bool (Lw.bigP ps)) ∧ w = w' := by
  have X := Lib.hid (big_idx A n c ps w R hw hn)
  clear R hw
  go_enter Try.func64, Try.ntmps64
  go_wp2_with (go_at_call 84; (with_reducible refine (X.out).mono ?_); rintro e w1 ⟨r, rfl, rfl, hr⟩)
  go_ret
  exact ⟨Lw.ret_bool (Lw.IdxT.ge hr), rfl⟩
set_option maxRecDepth 100000 in
set_option maxHeartbeats 4000000 in
theorem place_texts (n i : Nat) (A B : Option Addr) (l k c d : Nat) (leaf ps : List Int) (w : World) (RA : Lw.Rd w 1 A l (Lw.intsV .u8 leaf)) (RB : Lw.Rd w 1 B k (Lw.intsV .u32 ps)) (hb : Lw.Byt leaf) (hp : ∀ z ∈ ps, 0 ≤ z ∧ z < 4294967296)
    (hn : n ≤ 64) (hi : i < n) (hl : l < 4096) (hk : k ≤ 64) (hkd : k ≤ d) :
    Calls Try.prog 44 #[.agg #[.int .i64 (n : Int), .int .i64 (i : Int)], .slice A l c, .slice B k d] w (Lw.TxR (Lw.textsL n i leaf ps) w) := by
  obtain ⟨W, hW⟩ : ∃ W, w.alloc (.cells #[.int .i64 (n : Int), .int .i64 (i : Int)] 81) = W := ⟨_, rfl⟩
  have B0 := Lib.hid (show W.heap[w.heap.size]? = some (.cells #[.int .i64 (n : Int), .int .i64 (i : Int)] 81 (0, 0)) from hW ▸ Lw.blk_new _ _ _)
  have hBW : Below w.heap.size w W := by rw [← hW]; exact Lw.balloc (Below.refl _ _) _
  have hWs : w.heap.size < W.heap.size := by rw [← hW]; simp
  have l0 := Lw.blk_cell B0.out 0
  have l1 := Lw.blk_cell B0.out 1
  simp at l0 l1
  have HW := Lib.hid hW
  have RAW := Lib.hid (RA.below (Nat.le_refl _) hBW)
  have RBW := RB.below (Nat.le_refl _) hBW
  have LT := Lib.hid (tree_leafText A l c leaf W RAW.out (by omega))
  have lb : ps.length = k := by have := RB.1; simpa [Lw.intsV] using this
  have HB := Lib.hid (Lw.leafT_byt hb)
  have BC := fun W' (hb' : Below W.heap.size W W') => big_con B k d ps W' (RBW.below (Nat.le_refl _) hb') hp (by omega)
  cases hbig : Lw.bigP ps with
  | true =>
    have E := Lib.hid (Lw.texts_big (n := n) (i := i) (leaf := leaf) hbig)
    rw [hbig] at BC
    replace BC := Lib.hid BC
    generalize Lw.textsL n i leaf ps = S at *
    clear hW RA RB RBW hb hp hbig
    go_enter Try.func44, Try.ntmps44
    go_wp2_with fail
    rw [HW.out]
    refine LT.out.mono ?_
    rintro e w1 ⟨A1, c1, rfl, own1, hb1⟩
    go_wp2_with fail
    refine (BC.out _ (Lw.balloc hb1 _)).mono ?_
    rintro e w' ⟨rfl, rfl⟩
    go_wp2_with fail
    go_ret2
    exact ⟨_, _, _, _, rfl, by rw [E.out]; rfl, (fun L hL => by rw [E.out] at hL; cases hL), hBW.trans ((Lw.balloc hb1 _).mono hBW.size)⟩
  | false =>
    have E := Lib.hid (Lw.texts_of (n := n) (i := i) (leaf := leaf) hbig)
    rw [hbig] at BC
    replace BC := Lib.hid BC
    have PB : Hid (∀ z ∈ ps, 0 ≤ z ∧ z < 65536) := fun z hz => by
      have := List.any_eq_false.1 hbig z hz
      simp at this
      exact ⟨(hp z hz).1, by omega⟩
    generalize Lw.textsL n i leaf ps = S at *
    obtain ⟨RES, hRES⟩ : ∃ r, Lw.leadL 64 n i [some (0 :: leaf)] ps = r := ⟨_, rfl⟩
    rw [hRES] at E
    have E := Lib.hid E.out
    have HR := Lib.hid hRES
    have RBH := Lib.hid RB
    have LBH := Lib.hid lb
    clear hW RA RB hb hp hbig hRES RBW lb
    go_enter Try.func44, Try.ntmps44
    go_wp2_with fail
    rw [HW.out]
    refine LT.out.mono ?_
    rintro e w1 ⟨A1, c1, rfl, own1, hb1⟩
    have OWN1 := Lib.hid own1
    clear own1
    go_wp2_with fail
    refine (BC.out _ (Lw.balloc hb1 _)).mono ?_
    rintro e w' ⟨rfl, rfl⟩
    have hs1 := hb1.size
    go_wp2_with fail
    go_loopw [2, 8, 9, 10] (fun p v _ _ wr => ∃ (n' i' f k' d' : Nat) (B' : Option Addr) (ps' : List Int) (T : List Lw.TRow) (m : Nat), (p = .slice B' k' d' ∧ k' ≤ k ∧ k' ≤ d' ∧ ps'.length = k' ∧ n' ≤ f + 1 ∧ n' ≤ 64 ∧ 1 ≤ n' ∧ i' < n' ∧ f ≤ 64 ∧ m + f = 65 ∧ 1 ≤ m ∧ T.length = m ∧ W.heap.size ≤ wr.heap.size) ∧ Hid (Lw.leadL f n' i' (T.map Lw.topt) ps' = RES) ∧ Hid (Lw.Rd w 1 B' k' (Lw.intsV .u32 ps')) ∧ Hid (∀ z ∈ ps', 0 ≤ z ∧ z < 65536) ∧ wr.ownsRow W.heap.size 40 1 v m (T.map Lw.TRow.v) ∧ Hid (∀ r ∈ T, Lw.TxtW 5 W.heap.size wr r) ∧ Below w.heap.size w wr ∧ wr.heap[w.heap.size]? = some (.cells #[.int .i64 (n' : Int), .int .i64 (i' : Int)] 81 (0, 0)))
      (fun _ _ _ _ wr => (intOf ((wr.cell? ⟨w.heap.size, 0, none⟩).getD undef)).toNat)
    case atStart =>
      refine ⟨n, i, 64, k, d, B, ps, [⟨A1, 1 + l, c1, 0 :: leaf⟩], 1, ⟨rfl, by omega, hkd, LBH.out, by omega, by omega, by omega, hi, by omega, by omega, by omega, rfl, by simp; omega⟩, ?_, RBH.out, PB.out, ?_, ?_, hBW.trans ((Lw.balloc hb1 _).mono hBW.size), ?_⟩
      · have := Lw.topt_own (n := 1 + l) OWN1.out (by omega)
        rw [List.map_singleton, this]; exact HR.out
      · exact Lw.own_lit _ rfl rfl (by decide) hs1
      · intro r hr
        simp at hr
        subst hr
        exact ⟨OWN1.out.alloc _, HB.out, by show 1 + l ≤ 1048576; omega⟩
      · exact Lw.blk_alloc ((hb1.block _ hWs).trans B0.out) _
    case round =>
      obtain ⟨n', i', f, k', d', B', ps', T, m, ⟨rfl, hk1, hk2, hk3, hn1, hn2, hn3, hi1, hf1, hm1, hm2, hm3, hWr⟩, HL, RP, PP, own, TX, hB, bp⟩ := hrel
      have c0 := Lw.blk_cell bp 0
      have c1' := Lw.blk_cell bp 1
      have f0 := Lw.blk_free bp 0
      have f1 := Lw.blk_free bp 1
      simp at c0 c1'
      have BP := Lib.hid bp
      have OWN := Lib.hid own
      clear own bp
      have hsz := hB.size
      by_cases hn : n' ≤ 1
      · have hn' : ¬ (1 : Int) < (n' : Int) := by omega
        have R1 := HL.out
        rw [Lw.lead_end hn] at R1
        obtain ⟨C, g, rfl, _⟩ := Lw.ownsForm OWN.out
        have hn2 : ¬ (n' : Int) > 1 := by omega
        by_cases hk0 : k' = 0
        · have z : ((k' : Int) == 0) = true := by simp; omega
          have hps : ps' = [] := List.eq_nil_of_length_eq_zero (by omega)
          have ES : Hid (S = some (T.map Lw.topt)) := by rw [E.out, ← R1, hps]; exact rfl
          clear R1 HL E
          go_wp2_with fail
          go_ret2
          refine ⟨C, m, g, true, by simp [z], by rw [ES.out]; rfl, (fun L hL => ?_), hB⟩
          rw [ES.out] at hL
          injection hL with hL
          exact ⟨T, ⟨Lw.Rd.of_own OWN.out, fun r hr => (TX.out r hr).ok, hm3⟩, hL, by omega⟩
        · have z : ((k' : Int) == 0) = false := by simp; omega
          have ES : Hid (S = none) := by
            rw [E.out, ← R1]
            cases ps' with
            | nil => simp at hk3; omega
            | cons a b => exact rfl
          clear R1 HL E
          go_wp2_with fail
          go_ret2
          exact ⟨C, m, g, false, by simp [z], by rw [ES.out]; rfl, (fun L hL => by rw [ES.out] at hL; cases hL), hB⟩
      · have hn' : (1 : Int) < (n' : Int) := by omega
        obtain ⟨f, rfl⟩ : ∃ f', f = f' + 1 := ⟨f - 1, by omega⟩
        have hX := Lw.i64_xor_nat i' 1 (by omega) (by omega)
        have n2 : ((n' : Int) + 1) / 2 = (((n' + 1) / 2 : Nat) : Int) := by omega
        have i2 : (i' : Int) / 2 = ((i' / 2 : Nat) : Int) := by omega
        have hlt2 : (n' + 1) / 2 < n' := by omega
        have N2 := Lib.hid n2
        have I2 := Lib.hid i2
        clear n2 i2
        by_cases hev : i' % 2 = 0
        · rw [Lw.xor_even hev] at hX
          have hX : bits .xor .i64 (i' : Int) 1 = (i' : Int) + 1 := by rw [show ((1 : Nat) : Int) = 1 from rfl] at hX; rw [hX]; omega
          by_cases hge : n' ≤ i' + 1
          · have hge' : (n' : Int) ≤ (i' : Int) + 1 := by omega
            have HL2 := Lib.hid ((Lw.lead_none (f := f) (L := T.map Lw.topt) (ps := ps') hn hev hge).symm.trans HL.out)
            go_wp2_with (at_builtin; refine Lw.wpList_app elRws rfl _ _ rfl rfl (OWN.out.alloc _) rfl (by first | exact Lw.Rd.nil _ _ _ | exact Lw.Rd.lit (Lw.blk_new' (by simp) _ _) rfl rfl | exact Lw.Rd.lit (Lw.blk_alloc (Lw.blk_new' (by simp) _ _) _) rfl rfl) (Lw.one_sl _ _ _) (by omega) (Lw.balloc hB _) (Nat.le_of_lt hWs) (by simp; omega) ?_; intro v3 w3 own3 hb3 hg3 _; have BP3 := Lw.box_grown BP.out OWN.out hWs hg3; have d0 := Lw.blk_cell BP3 0; have d1 := Lw.blk_cell BP3 1; have e0 := Lw.blk_free BP3 0; have e1 := Lw.blk_free BP3 1; simp at d0 d1)
            have BP3 := Lw.box_grown BP.out OWN.out hWs hg3
            have S2 := Lw.set2c' (x := .int .i64 (((n' : Int) + 1) / 2)) (y := .int .i64 ((i' : Int) / 2)) BP3
            refine ⟨⟨(n' + 1) / 2, i' / 2, f, k', d', B', ps', T ++ [⟨none, 0, 0, []⟩], m + 1, ⟨rfl, hk1, hk2, hk3, by omega, by omega, by omega, by omega, by omega, by omega, by omega, by simp [hm3], ?_⟩, ?_, RP, PP, ?_, ?_, ?_, ?_⟩, ?_⟩
            · have h9 := hg3.size; simp at h9 ⊢; omega
            · rw [List.map_append]; exact HL2.out
            · rw [Lw.map_snoc]; exact Lw.bset_own (Lw.bset_own own3 hWs) hWs
            · intro r hr
              rcases List.mem_append.1 hr with hr | hr
              · obtain ⟨o1, o2, o3⟩ := TX.out r hr
                exact ⟨Lw.bset_own (Lw.bset_own (Lw.own_keep (o1.alloc _) (OWN.out.alloc _) (by decide) hg3) hWs) hWs, o2, o3⟩
              · simp at hr
                subst hr
                exact ⟨World.ownsRow_nil _ _ _ _, by intro x hx; simp at hx, by decide⟩
            · exact (hb3.setCell (p := ⟨_, 0, none⟩) (Nat.le_refl _) _).setCell (p := ⟨_, 1, none⟩) (Nat.le_refl _) _
            · rw [← N2.out, ← I2.out]; exact S2
            · have q0 := Lw.blk_cell S2 0
              simp at q0
              rw [q0, c0]
              simp [intOf]
              omega
          · have hge' : ¬ (n' : Int) ≤ (i' : Int) + 1 := by omega
            have zp : ((i' : Int) % 2 == 1) = false := by simp; omega
            have tp : (i' : Int).tmod 2 = (i' : Int) % 2 := Int.tmod_eq_emod_of_nonneg (by omega)
            obtain ⟨C, g, rfl, _⟩ := Lw.ownsForm OWN.out
            rcases ps' with _ | ⟨x, ps2⟩
            · obtain rfl : k' = 0 := by simpa using hk3.symm
              have ES : Hid (S = none) := by rw [E.out, ← HL.out, Lw.lead_out hn (fun h => hge h.2)]; exact rfl
              clear HL E
              go_wp2_with fail
              go_ret2
              exact ⟨_, _, _, false, rfl, by rw [ES.out]; rfl, (fun L hL => by rw [ES.out] at hL; cases hL), hB⟩
            · obtain ⟨k2, rfl⟩ : ∃ k2, k' = k2 + 1 := ⟨k' - 1, by simp at hk3; omega⟩
              obtain ⟨ad, rfl, had, hcx, RT⟩ := Lw.Rd.tail (x := .int .u32 x) (xs := Lw.intsV .u32 ps2) RP.out
              have hadw : ad.block < wr.heap.size := by omega
              have hcw : wr.cell? ad = some (.int .u32 x) := (hB.cell had).trans hcx
              obtain ⟨x0, x1⟩ := PP.out x (by simp)
              have P2 : Hid (∀ z ∈ ps2, 0 ≤ z ∧ z < 65536) := fun z hz => PP.out z (by simp [hz])
              have HL2 := Lib.hid ((Lw.lead_even (f := f) (L := T.map Lw.topt) (x := x) (ps := ps2) hn hev hge).symm.trans HL.out)
              have NV := Lw.nodV_eq T
              obtain ⟨v0, v1⟩ := Lw.nodL_bd (T.map Lw.topt)
              have ND := fun W2 (hb : Below wr.heap.size wr W2) => tree_node C m g T W2 ((Lw.Rd.of_own OWN.out).below (Nat.le_refl _) hb) (fun r hr => Lw.txtOk_below (TX.out r hr).ok (Nat.le_refl _) hb) (by omega)
              rw [NV] at ND
              obtain ⟨V, hV⟩ : ∃ V, Lw.nodL (T.map Lw.topt) = V := ⟨_, rfl⟩
              rw [hV] at ND v0 v1 HL2
              have ND := Lib.hid ND
              have KP : ps2.length = k2 := by simpa using hk3
              have RT2 := Lib.hid (Lw.rd_cut (d := d') RT (by omega))
              have PT := Lib.hid (fun w => tree_pairText V x w (by omega) (by omega) (by omega) (by omega))
              have hlw : w.heap.size < wr.heap.size := by omega
              clear HL NV hV PP hk3 had hcx
              go_wp2_with fail
              refine wp_region_held_drew (S := Lw.Sm wr) (by kernel_rfl) (Lw.sm_drew wr) (fun hHeld => ?_)
              (refine Lw.take1 (i := 0) (v := ?_) rfl (by kernel_rfl) (by kernel_rfl) (by kernel_rfl) (fun _ _ _ h => h) (Or.inl ⟨by rfl, ?_⟩) (by assumption) ?_; rotate_left 1; (focus (intro wS hSw; obtain ⟨hS1, hS2, hS3, hS4⟩ := hSw; go_simp <;> with_reducible rfl)); (try simp only [Act.put, List.setIfInBounds_toArray, List.set_cons_zero, List.set_cons_succ]))
              (refine Lw.take1 (i := 2) (v := ?_) rfl (by kernel_rfl) (by kernel_rfl) (by kernel_rfl) (fun _ _ _ h => h) (Or.inl ⟨by rfl, ?_⟩) (by assumption) ?_; rotate_left 1; (focus (intro wS hSw; obtain ⟨hS1, hS2, hS3, hS4⟩ := hSw; go_simp <;> with_reducible rfl)); (try simp only [Act.put, List.setIfInBounds_toArray, List.set_cons_zero, List.set_cons_succ]))
              (refine Lw.take1 (i := 3) (v := ?_) rfl (by kernel_rfl) (by kernel_rfl) (by kernel_rfl) (fun _ _ _ h => h) (Or.inl ⟨by rfl, ?_⟩) (by assumption) ?_; rotate_left 1; (focus (intro wS hSw; obtain ⟨hS1, hS2, hS3, hS4⟩ := hSw; go_simp <;> with_reducible rfl)); (try simp only [Act.put, List.setIfInBounds_toArray, List.set_cons_zero, List.set_cons_succ]))
              (refine Lw.take1 (i := 4) (v := ?_) rfl (by kernel_rfl) (by kernel_rfl) (by kernel_rfl) (fun _ _ _ h => h) (Or.inl ⟨by rfl, ?_⟩) (by assumption) ?_; rotate_left 1; (focus (intro wS hSw; obtain ⟨hS1, hS2, hS3, hS4⟩ := hSw; go_simp <;> with_reducible rfl)); (try simp only [Act.put, List.setIfInBounds_toArray, List.set_cons_zero, List.set_cons_succ]))
              (refine wpAnyH_ready (rs := [1]) (by kernel_rfl) (by simp) ?_; refine Lw.cons1 (i := 1) rfl (fun K hK => ?_) AllReadyH.nil; go_simp; go_at_call 45; (with_reducible refine (ND.out _ (Below.drew (Below.refl _ _))).mono ?_); rintro e w2 ⟨rfl, hb2⟩; refine hK.out _ _ ?_ (fun hHeld => ?_); (focus exact Lw.sm_keep (Lw.sm_drew wr) hb2); clear hK K; (try simp only [Act.put, List.setIfInBounds_toArray, List.set_cons_zero, List.set_cons_succ]))
              have hS := Lw.sm_keep (Lw.sm_drew wr) hb2
              (refine Lw.take1 (i := 5) (v := ?_) rfl (by kernel_rfl) (by kernel_rfl) (by kernel_rfl) (fun _ _ _ h => h) (Or.inl ⟨by rfl, ?_⟩) (by assumption) ?_; rotate_left 1; (focus (intro wS hSw; obtain ⟨hS1, hS2, hS3, hS4⟩ := hSw; go_simp <;> with_reducible rfl)); (try simp only [Act.put, List.setIfInBounds_toArray, List.set_cons_zero, List.set_cons_succ]))
              (refine Lw.take1 (i := 6) (v := ?_) rfl (by kernel_rfl) (by kernel_rfl) (by kernel_rfl) (fun _ _ _ h => h) (Or.inl ⟨by rfl, ?_⟩) (by assumption) ?_; rotate_left 1; (focus (intro wS hSw; obtain ⟨hS1, hS2, hS3, hS4⟩ := hSw; go_simp <;> with_reducible rfl)); (try simp only [Act.put, List.setIfInBounds_toArray, List.set_cons_zero, List.set_cons_succ]))
              refine wpAnyH_done (by kernel_rfl) ?_ _
              have m1 := (hS.1 ⟨w.heap.size, 1, none⟩ hlw).trans c1'
              have hbS := hS.2.2.2
              have hs2 := hbS.size
              clear hHeld hb2
              go_wp2_with fail
              refine (PT.out _).mono ?_
              rintro e w5 ⟨A5, c5, rfl, own5, hb5⟩
              have hs5 := hb5.size
              have O5 := Lib.hid (Lw.ownsBelow (Lw.ownsBelow OWN.out (Nat.le_refl _) hbS) (Nat.le_refl _) hb5)
              have BP5 := Lib.hid ((hb5.block _ (by omega)).trans ((hbS.block _ hlw).trans BP.out))
              have OW5 := Lib.hid own5
              have hB5 : Below w.heap.size w w5 := Lw.bt (Lw.bt hB hbS) hb5
              clear own5
              go_wp2_with (at_builtin; refine Lw.wpList_app elRws rfl _ _ rfl rfl (O5.out.alloc _) rfl (by first | exact Lw.Rd.nil _ _ _ | exact Lw.Rd.lit (Lw.blk_new' (by simp) _ _) rfl rfl | exact Lw.Rd.lit (Lw.blk_alloc (Lw.blk_new' (by simp) _ _) _) rfl rfl) (Lw.one_sl _ _ _) (by omega) (Lw.balloc hB5 _) (Nat.le_of_lt hWs) (by simp; omega) ?_; intro v3 w3 own3 hb3 hg3 _; have BP3 := Lw.box_grown BP5.out O5.out hWs hg3; have d0 := Lw.blk_cell BP3 0; have d1 := Lw.blk_cell BP3 1; have e0 := Lw.blk_free BP3 0; have e1 := Lw.blk_free BP3 1; simp at d0 d1)
              have BP3 := Lw.box_grown BP5.out O5.out hWs hg3
              have S2 := Lw.set2c' (x := .int .i64 (((n' : Int) + 1) / 2)) (y := .int .i64 ((i' : Int) / 2)) BP3
              refine ⟨⟨(n' + 1) / 2, i' / 2, f, k2, d' - 1, _, ps2, T ++ [⟨A5, 5, c5, Lw.pairT V x⟩], m + 1, ⟨rfl, by omega, by omega, KP, by omega, by omega, by omega, by omega, by omega, by omega, by omega, by simp [hm3], ?_⟩, ?_, RT2, P2, ?_, ?_, ?_, ?_⟩, ?_⟩
              · have h9 := hg3.size; simp at h9 ⊢; omega
              · rw [List.map_append, List.map_singleton, Lw.topt_own (n := 5) OW5.out (by decide)]; exact HL2.out
              · rw [Lw.map_snoc]; exact Lw.bset_own (Lw.bset_own own3 hWs) hWs
              · intro r hr
                rcases List.mem_append.1 hr with hr | hr
                · obtain ⟨o1, o2, o3⟩ := TX.out r hr
                  exact ⟨Lw.bset_own (Lw.bset_own (Lw.own_keep ((Lw.ownsBelow (Lw.ownsBelow o1 (Nat.le_refl _) hbS) (Nat.le_refl _) hb5).alloc _) (O5.out.alloc _) (by decide) hg3) hWs) hWs, o2, o3⟩
                · simp at hr
                  subst hr
                  exact ⟨Lw.bset_own (Lw.bset_own (Lw.own_keep ((Lw.ownsBase OW5.out (by omega)).alloc _) (O5.out.alloc _) (by decide) hg3) hWs) hWs, Lw.pairT_byt _ _, (by decide : (5 : Nat) ≤ 1048576)⟩
              · exact (hb3.setCell (p := ⟨_, 0, none⟩) (Nat.le_refl _) _).setCell (p := ⟨_, 1, none⟩) (Nat.le_refl _) _
              · rw [← N2.out, ← I2.out]; exact S2
              · have q0 := Lw.blk_cell S2 0
                simp at q0
                rw [q0, c0]
                simp [intOf]
                omega
        · have hod : i' % 2 = 1 := by omega
          rw [Lw.xor_odd hod] at hX
          have hX : bits .xor .i64 (i' : Int) 1 = (i' : Int) - 1 := by rw [show ((1 : Nat) : Int) = 1 from rfl] at hX; rw [hX]; omega
          have hge' : ¬ (n' : Int) ≤ (i' : Int) - 1 := by omega
          have zp : ((i' : Int) % 2 == 1) = true := by simp; omega
          have tp : (i' : Int).tmod 2 = (i' : Int) % 2 := Int.tmod_eq_emod_of_nonneg (by omega)
          obtain ⟨C, g, rfl, _⟩ := Lw.ownsForm OWN.out
          rcases ps' with _ | ⟨x, ps2⟩
          · obtain rfl : k' = 0 := by simpa using hk3.symm
            have ES : Hid (S = none) := by rw [E.out, ← HL.out, Lw.lead_out hn (fun h => hev h.1)]; exact rfl
            clear HL E
            go_wp2_with fail
            go_ret2
            exact ⟨_, _, _, false, rfl, by rw [ES.out]; rfl, (fun L hL => by rw [ES.out] at hL; cases hL), hB⟩
          · obtain ⟨k2, rfl⟩ : ∃ k2, k' = k2 + 1 := ⟨k' - 1, by simp at hk3; omega⟩
            obtain ⟨ad, rfl, had, hcx, RT⟩ := Lw.Rd.tail (x := .int .u32 x) (xs := Lw.intsV .u32 ps2) RP.out
            have hadw : ad.block < wr.heap.size := by omega
            have hcw : wr.cell? ad = some (.int .u32 x) := (hB.cell had).trans hcx
            obtain ⟨x0, x1⟩ := PP.out x (by simp)
            have P2 : Hid (∀ z ∈ ps2, 0 ≤ z ∧ z < 65536) := fun z hz => PP.out z (by simp [hz])
            have HL2 := Lib.hid ((Lw.lead_odd (f := f) (L := T.map Lw.topt) (x := x) (ps := ps2) hn hod).symm.trans HL.out)
            have NV := Lw.nodV_eq T
            obtain ⟨v0, v1⟩ := Lw.nodL_bd (T.map Lw.topt)
            have ND := fun W2 (hb : Below wr.heap.size wr W2) => tree_node C m g T W2 ((Lw.Rd.of_own OWN.out).below (Nat.le_refl _) hb) (fun r hr => Lw.txtOk_below (TX.out r hr).ok (Nat.le_refl _) hb) (by omega)
            rw [NV] at ND
            obtain ⟨V, hV⟩ : ∃ V, Lw.nodL (T.map Lw.topt) = V := ⟨_, rfl⟩
            rw [hV] at ND v0 v1 HL2
            have ND := Lib.hid ND
            have KP : ps2.length = k2 := by simpa using hk3
            have RT2 := Lib.hid (Lw.rd_cut (d := d') RT (by omega))
            have PT := Lib.hid (fun w => tree_pairText x V w (by omega) (by omega) (by omega) (by omega))
            have hlw : w.heap.size < wr.heap.size := by omega
            clear HL NV hV PP hk3 had hcx
            go_wp2_with fail
            refine wp_region_held_drew (S := Lw.Sm wr) (by kernel_rfl) (Lw.sm_drew wr) (fun hHeld => ?_)
            (refine Lw.take1 (i := 0) (v := ?_) rfl (by kernel_rfl) (by kernel_rfl) (by kernel_rfl) (fun _ _ _ h => h) (Or.inl ⟨by rfl, ?_⟩) (by assumption) ?_; rotate_left 1; (focus (intro wS hSw; obtain ⟨hS1, hS2, hS3, hS4⟩ := hSw; go_simp <;> with_reducible rfl)); (try simp only [Act.put, List.setIfInBounds_toArray, List.set_cons_zero, List.set_cons_succ]))
            (refine Lw.take1 (i := 2) (v := ?_) rfl (by kernel_rfl) (by kernel_rfl) (by kernel_rfl) (fun _ _ _ h => h) (Or.inl ⟨by rfl, ?_⟩) (by assumption) ?_; rotate_left 1; (focus (intro wS hSw; obtain ⟨hS1, hS2, hS3, hS4⟩ := hSw; go_simp <;> with_reducible rfl)); (try simp only [Act.put, List.setIfInBounds_toArray, List.set_cons_zero, List.set_cons_succ]))
            (refine Lw.take1 (i := 3) (v := ?_) rfl (by kernel_rfl) (by kernel_rfl) (by kernel_rfl) (fun _ _ _ h => h) (Or.inl ⟨by rfl, ?_⟩) (by assumption) ?_; rotate_left 1; (focus (intro wS hSw; obtain ⟨hS1, hS2, hS3, hS4⟩ := hSw; go_simp <;> with_reducible rfl)); (try simp only [Act.put, List.setIfInBounds_toArray, List.set_cons_zero, List.set_cons_succ]))
            (refine Lw.take1 (i := 4) (v := ?_) rfl (by kernel_rfl) (by kernel_rfl) (by kernel_rfl) (fun _ _ _ h => h) (Or.inl ⟨by rfl, ?_⟩) (by assumption) ?_; rotate_left 1; (focus (intro wS hSw; obtain ⟨hS1, hS2, hS3, hS4⟩ := hSw; go_simp <;> with_reducible rfl)); (try simp only [Act.put, List.setIfInBounds_toArray, List.set_cons_zero, List.set_cons_succ]))
            (refine wpAnyH_ready (rs := [1]) (by kernel_rfl) (by simp) ?_; refine Lw.cons1 (i := 1) rfl (fun K hK => ?_) AllReadyH.nil; go_simp; go_at_call 45; (with_reducible refine (ND.out _ (Below.drew (Below.refl _ _))).mono ?_); rintro e w2 ⟨rfl, hb2⟩; refine hK.out _ _ ?_ (fun hHeld => ?_); (focus exact Lw.sm_keep (Lw.sm_drew wr) hb2); clear hK K; (try simp only [Act.put, List.setIfInBounds_toArray, List.set_cons_zero, List.set_cons_succ]))
            have hS := Lw.sm_keep (Lw.sm_drew wr) hb2
            (refine Lw.take1 (i := 5) (v := ?_) rfl (by kernel_rfl) (by kernel_rfl) (by kernel_rfl) (fun _ _ _ h => h) (Or.inl ⟨by rfl, ?_⟩) (by assumption) ?_; rotate_left 1; (focus (intro wS hSw; obtain ⟨hS1, hS2, hS3, hS4⟩ := hSw; go_simp <;> with_reducible rfl)); (try simp only [Act.put, List.setIfInBounds_toArray, List.set_cons_zero, List.set_cons_succ]))
            (refine Lw.take1 (i := 6) (v := ?_) rfl (by kernel_rfl) (by kernel_rfl) (by kernel_rfl) (fun _ _ _ h => h) (Or.inl ⟨by rfl, ?_⟩) (by assumption) ?_; rotate_left 1; (focus (intro wS hSw; obtain ⟨hS1, hS2, hS3, hS4⟩ := hSw; go_simp <;> with_reducible rfl)); (try simp only [Act.put, List.setIfInBounds_toArray, List.set_cons_zero, List.set_cons_succ]))
            refine wpAnyH_done (by kernel_rfl) ?_ _
            have m1 := (hS.1 ⟨w.heap.size, 1, none⟩ hlw).trans c1'
            have hbS := hS.2.2.2
            have hs2 := hbS.size
            clear hHeld hb2
            go_wp2_with fail
            refine (PT.out _).mono ?_
            rintro e w5 ⟨A5, c5, rfl, own5, hb5⟩
            have hs5 := hb5.size
            have O5 := Lib.hid (Lw.ownsBelow (Lw.ownsBelow OWN.out (Nat.le_refl _) hbS) (Nat.le_refl _) hb5)
            have BP5 := Lib.hid ((hb5.block _ (by omega)).trans ((hbS.block _ hlw).trans BP.out))
            have OW5 := Lib.hid own5
            have hB5 : Below w.heap.size w w5 := Lw.bt (Lw.bt hB hbS) hb5
            clear own5
            go_wp2_with (at_builtin; refine Lw.wpList_app elRws rfl _ _ rfl rfl (O5.out.alloc _) rfl (by first | exact Lw.Rd.nil _ _ _ | exact Lw.Rd.lit (Lw.blk_new' (by simp) _ _) rfl rfl | exact Lw.Rd.lit (Lw.blk_alloc (Lw.blk_new' (by simp) _ _) _) rfl rfl) (Lw.one_sl _ _ _) (by omega) (Lw.balloc hB5 _) (Nat.le_of_lt hWs) (by simp; omega) ?_; intro v3 w3 own3 hb3 hg3 _; have BP3 := Lw.box_grown BP5.out O5.out hWs hg3; have d0 := Lw.blk_cell BP3 0; have d1 := Lw.blk_cell BP3 1; have e0 := Lw.blk_free BP3 0; have e1 := Lw.blk_free BP3 1; simp at d0 d1)
            have BP3 := Lw.box_grown BP5.out O5.out hWs hg3
            have S2 := Lw.set2c' (x := .int .i64 (((n' : Int) + 1) / 2)) (y := .int .i64 ((i' : Int) / 2)) BP3
            refine ⟨⟨(n' + 1) / 2, i' / 2, f, k2, d' - 1, _, ps2, T ++ [⟨A5, 5, c5, Lw.pairT x V⟩], m + 1, ⟨rfl, by omega, by omega, KP, by omega, by omega, by omega, by omega, by omega, by omega, by omega, by simp [hm3], ?_⟩, ?_, RT2, P2, ?_, ?_, ?_, ?_⟩, ?_⟩
            · have h9 := hg3.size; simp at h9 ⊢; omega
            · rw [List.map_append, List.map_singleton, Lw.topt_own (n := 5) OW5.out (by decide)]; exact HL2.out
            · rw [Lw.map_snoc]; exact Lw.bset_own (Lw.bset_own own3 hWs) hWs
            · intro r hr
              rcases List.mem_append.1 hr with hr | hr
              · obtain ⟨o1, o2, o3⟩ := TX.out r hr
                exact ⟨Lw.bset_own (Lw.bset_own (Lw.own_keep ((Lw.ownsBelow (Lw.ownsBelow o1 (Nat.le_refl _) hbS) (Nat.le_refl _) hb5).alloc _) (O5.out.alloc _) (by decide) hg3) hWs) hWs, o2, o3⟩
              · simp at hr
                subst hr
                exact ⟨Lw.bset_own (Lw.bset_own (Lw.own_keep ((Lw.ownsBase OW5.out (by omega)).alloc _) (O5.out.alloc _) (by decide) hg3) hWs) hWs, Lw.pairT_byt _ _, (by decide : (5 : Nat) ≤ 1048576)⟩
            · exact (hb3.setCell (p := ⟨_, 0, none⟩) (Nat.le_refl _) _).setCell (p := ⟨_, 1, none⟩) (Nat.le_refl _) _
            · rw [← N2.out, ← I2.out]; exact S2
            · have q0 := Lw.blk_cell S2 0
              simp at q0
              rw [q0, c0]
              simp [intOf]
              omega
end Go.Proofs.Ytnlbnadjolfjpaa
